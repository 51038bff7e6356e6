/- What is said of single functions. No condition. -/
import Derived.Test.YtdiacobmhkmljaaDoorKf
import Derived.Test.YtdiacobmhkmljaaDoorKb
import Derived.Test.YtdiacobmhkmljaaDoorCards
import Derived.Test.YtdiacobmhkmljaaDoorTie
/- The law of single functions. -/
namespace Go.Proofs.YtdiacobmhkmljaaDoor
open Go.Sl
variable {S:Nat→Prop} {w0:World} {η:Heap}
theorem zero_ints (n:Nat):ints (List.replicate n 0)=List.replicate n (.int .i64 0):=by unfold ints; rw [List.map_replicate]
/-- Contracts, where the arguments lie in blocks of one's own. -/
theorem Run_own (ηr : Heap) {fa ca : Option Addr} {fl : List TE} {fc cc k : Nat} {cells : List Int} {top : Key} {e : Int} (hT : Tabs S w0) (hf : Fs S w0 [] fa fl) (hfl : fl.length < 9223372036854775808) (hc : Row S w0 ηr ca (ints cells)) (hk : cells.length = k) (hcl : k < 9223372036854775808) (he : runE (fl.map TE.ex) cells top = ([], e)) :
  Rt Tryd.prog 12 [.slice fa fl.length fc,.slice ca k cc,kV top].toArray S w0 (ηr++η) (fun v η'=>∃ a cap segs,v = .tuple #[.slice a 0 cap,.int .i64 e]∧η'=segs++η):=by
 subst hk
 refine Rt.frame ηr rfl fun S' w1 hz _=>(Run_fn (hT.old hz) (hf.old hz) hfl (hc.frz hz) hcl).mono fun v η' ⟨a,cap,l,segs,h1,h2,_,_,h5⟩=>?_
 rw [he] at h1 h2
 have hl:l=[]:=List.map_eq_nil_iff.1 h2
 subst hl
 exact ⟨a,cap,ηr++segs,h1,by rw [h5,List.append_assoc]⟩
theorem Needs_own (ηr : Heap) {fa ca : Option Addr} {fl : List TE} {fc cc k : Nat} {cells : List Int} {top : Key} {e : Int} (hT : Tabs S w0) (hf : Fs S w0 [] fa fl) (hfl : fl.length < 9223372036854775808) (hc : Row S w0 ηr ca (ints cells)) (hk : cells.length = k) (hcl : k < 9223372036854775808) (he : needsS (fl.map TE.ex) cells top = ([], e)) :
  Rt Tryd.prog 18 [.slice fa fl.length fc,.slice ca k cc,kV top].toArray S w0 (ηr++η) (fun v η'=>∃ a cap segs,v = .tuple #[.slice a 0 cap,.int .i64 e]∧η'=segs++η):=by
 subst hk
 refine Rt.frame ηr rfl fun S' w1 hz _=>(Needs_fn (hT.old hz) (hf.old hz) hfl (hc.frz hz) hcl).mono fun v η' ⟨a,cap,segs,h1,_,h5⟩=>?_
 rw [he] at h1
 exact ⟨a,cap,ηr++segs,h1,by rw [h5,List.append_assoc]⟩
theorem Distance_own (ηr : Heap) {fa ca da : Option Addr} {fl : List TE} {fc cc dc k m : Nat} {cells others : List Int} {top : Key} {e : Int} (hT : Tabs S w0) (hf : Fs S w0 [] fa fl) (hfl : fl.length < 9223372036854775808) (hc : Row S w0 ηr ca (ints cells)) (hk : cells.length = k) (hcl : k < 9223372036854775808) (hd : Row S w0 ηr da (ints others)) (hm : others.length = m) (hdl : m < 9223372036854775808) (he : distS (fl.map TE.ex) cells others top = (0, e)) :
  Rt Tryd.prog 14 [.slice fa fl.length fc,.slice ca k cc,.slice da m dc,kV top].toArray S w0 (ηr++η) (fun v η'=>v = .tuple #[.int .i64 0,.int .i64 e]∧∃ segs,η'=segs++η):=by
 subst hk hm
 refine Rt.frame ηr rfl fun S' w1 hz _=>(Distance_fn (hT.old hz) (hf.old hz) hfl (hc.frz hz) hcl (hd.frz hz) hdl).mono fun v η' ⟨h1,h5⟩=>?_
 rw [he] at h1
 exact ⟨h1,ηr,by rw [h5]⟩
theorem Play_own (ηr : Heap) {fa ca ra : Option Addr} {fl : List TE} {fc cc rc k m : Nat} {cells : List Int} {top : Key} {ps : List EH} {e : Int} (hT : Tabs S w0) (hf : Fs S w0 [] fa fl) (hfl : fl.length < 9223372036854775808) (hc : Row S w0 ηr ca (ints cells)) (hk : cells.length = k) (hcl : k < 9223372036854775808) (hr : GL kC S w0 ηr ra ps) (hm : ps.length = m) (hml : m < 9223372036854775808) (hrl : ∀ p ∈ ps, p.2.1.length < 9223372036854775808) (he : playS (fl.map TE.ex) cells top (erounds ps) = ([], e)) :
  Rt Tryd.prog 11 [.slice fa fl.length fc,.slice ca k cc,kV top,.slice ra m rc].toArray S w0 (ηr++η) (fun v η'=>∃ a cap segs,v = .tuple #[.slice a 0 cap,.int .i64 e]∧η'=segs++η):=by
 subst hk hm
 refine Rt.frame ηr rfl fun S' w1 hz _=>(Play_fn (hT.old hz) (hf.old hz) hfl (hc.frz hz) hcl (GL.frz hr hz) hml hrl).mono fun v η' ⟨a,cap,l,segs,h1,h2,_,_,h5⟩=>?_
 rw [he] at h1 h2
 have hl:l=[]:=List.map_eq_nil_iff.1 h2
 subst hl
 exact ⟨a,cap,ηr++segs,h1,by rw [h5,List.append_assoc]⟩
/-- Rounds without edits. -/
def zeroEd (n:Nat):List EH:=List.replicate n (none,[],0)
theorem zeroEd_len (n:Nat):(zeroEd n).length=n:=List.length_replicate
theorem zeroEd_small (n:Nat):∀ p∈zeroEd n,p.2.1.length<9223372036854775808:=fun p hp=>by rw [(List.mem_replicate.1 hp).2]; decide
theorem zeroEd_gl {b n:Nat} (h:[(b,Obj.cells (List.replicate n (.slice none 0 0)).toArray 38 (0,0))]∈η):GL kC S w0 η (some ⟨b,0,none⟩) (zeroEd n):=by
 refine ⟨?_,fun p hp=>by rw [(List.mem_replicate.1 hp).2]; exact Row.none⟩
 have e:(zeroEd n).map ghc=List.replicate n (.slice none 0 0):=by unfold zeroEd; rw [List.map_replicate]; rfl
 rw [e]
 exact row_own (e:=38) h
theorem zeroEd_rounds (n:Nat):erounds (zeroEd n)=List.replicate n []:=by unfold erounds zeroEd; rw [List.map_replicate]
def zeroK (n:Nat):List Key:=List.replicate n (0,0)
theorem zeroK_cells:∀ n:Nat,(zeroK n).flatMap kC=List.replicate (n*2) (.int .i64 0)
 | 0=>rfl
 | n+1=>by
  have e:zeroK (n+1)=(0,0)::zeroK n:=rfl
  rw [e,List.flatMap_cons,zeroK_cells n,show (n+1)*2=n*2+1+1 by omega,List.replicate_succ,List.replicate_succ]; rfl
/-- What is not formed is refused. -/
theorem bad_asked {F:List Ex} (h:checkS F=1) (c:List Int) (t:Key):askedS F c t=1:=by unfold askedS; rw [h,if_neg (by decide)]
theorem bad_run {F:List Ex} (h:checkS F=1) (c:List Int) (t:Key):runE F c t=([],1):=by unfold runE; rw [bad_asked h,if_neg (by decide)]
theorem bad_play {F:List Ex} (h:checkS F=1) (c:List Int) (t:Key) (r:List (List (Int × Int))):playS F c t r=([],1):=by unfold playS; rw [bad_asked h,if_neg (by decide)]
theorem bad_dist {F:List Ex} (h:checkS F=1) (c d:List Int) (t:Key):distS F c d t=(0,1):=by unfold distS; rw [bad_asked h,if_neg (by decide)]
theorem bad_needs {F:List Ex} (h:checkS F=1) (c:List Int) (t:Key):needsS F c t=([],1):=by unfold needsS; rw [bad_asked h,if_neg (by decide)]
theorem kn1:runE funsF [] (0,0)=([],2):=by decide +kernel
theorem kn2:runE funsF (List.replicate 101 0) (0,0)=([],2):=by decide +kernel
theorem kn3:runE funsF [2147483648] (0,0)=([],2):=by decide +kernel
theorem kn4:runE funsF [1] (2,0)=([],2):=by decide +kernel
theorem kn5:runE funsF [1] (0,201)=([],2):=by decide +kernel
theorem kn6:needsS funsF [1] (0,-1)=([],2):=by decide +kernel
theorem kn7:distS funsF [1] [1,2] (0,1)=(0,2):=by decide +kernel
theorem kn8:playS funsF [1] (0,1) (List.replicate 31 [])=([],3):=by decide +kernel
theorem kn9:playS funsF [1] (0,1) [[(1,0)],List.replicate 31 (0,0)]=([],3):=by decide +kernel
theorem kn10:playS funsF [1] (0,1) [[],[(1,0)]]=([],2):=by decide +kernel
theorem kn11:playS funsF [1] (0,1) [[(0,2147483648)]]=([],2):=by decide +kernel
theorem kn12:playS funsF [1] (0,1) []=([],0):=by decide +kernel
/-- A list of functions, as memory holds it. -/
structure BH where
 a:Option Addr
 l:List TE
def hdrB (b:BH):Value:=.slice b.a b.l.length b.l.length
theorem bl_at {a:Option Addr} {ps:List BH} (h:Row S w0 η a (ps.map hdrB)) {i:Nat} (hi:i<ps.length):At S w0 η (sAt a (i*1)) (.slice ps[i].a ps[i].l.length ps[i].l.length):=by
 rw [Nat.mul_one]; exact h.cell i _ (by simp [hi,hdrB])
theorem bl_ad {a:Option Addr} {ps:List BH} (h:Row S w0 η a (ps.map hdrB)) {i:Nat} (hi:i<ps.length):∃ ad,a=some ad∧ad.spot=none:=h.adi (i:=i) (by simpa using hi)
abbrev argT:TE:=.nd 1 0 none 0 []
structure KI where
 i:Nat
 t:TE
 H:Heap
theorem DA.stepV {F : Fence} {P : Program} {n : Nat} {Q : Exit → Act → World → Prop} {l : List Oper} {ds : List Deferred} {σ : Env} {vals : List SpA} (vs : List SpA) (v : (Nat → Nat) → Value) (u : List Nat) (hv : vs = vals ++ [⟨v, none, u⟩]) {o : Oper} {d : Nat} (ho : l[vals.length]? = some o) (hd : o.dst = some d) (h1 : ∀ β, v β = v (cutB u β))
  (h3:(u.all fun k=>Nat.beq k vals.length || (waits l vals.length k || waitsT l l.length vals.length k))=true)
  (hop:∀ β,∃ env,EnvOkA l σ vals β vals.length env∧∀ (ext:Env) (η:Heap),TL F P S w0 n l.toArray (Fin S w0 n ds η ((d,v β)::(envs env++ext))) [o] ds (envs env++ext) η) (h:DA F P S w0 n l ds σ η Q vs):DA F P S w0 n l ds σ η Q vals :=
 DA.step vs ⟨v,none,u⟩ hv ho hd h1 (fun f h=>by cases h) h3 hop h
theorem DA.stepB {F : Fence} {P : Program} {n : Nat} {Q : Exit → Act → World → Prop} {l : List Oper} {ds : List Deferred} {σ : Env} {vals : List SpA} (vs : List SpA) (v : (Nat → Nat) → Value) (f : (Nat → Nat) → Obj) (u : List Nat) (hv : vs = vals ++ [⟨v, some f, u⟩]) {o : Oper} {d : Nat} (ho : l[vals.length]? = some o) (hd : o.dst = some d) (h1 : ∀ β, v β = v (cutB u β)) (h2 : ∀ β, f β = f (cutB u β))
  (h3:(u.all fun k=>Nat.beq k vals.length || (waits l vals.length k || waitsT l l.length vals.length k))=true)
  (hop:∀ β,∃ env,EnvOkA l σ vals β vals.length env∧∀ (ext:Env) (η:Heap),TL F P S w0 n l.toArray (FinA S w0 n ds η (envs env++ext) d vals.length v f β) [o] ds (envs env++ext) η) (h:DA F P S w0 n l ds σ η Q vs):DA F P S w0 n l ds σ η Q vals :=
 DA.step vs ⟨v,some f,u⟩ hv ho hd h1 (fun g h=>by cases h; exact h2) h3 hop h
abbrev v10_0 (_t _x:TE) (β:Nat→Nat):Value:=.slice (some ⟨β 0,0,none⟩) 9 9
abbrev f10_0 (_t _x:TE) (_β:Nat→Nat):Obj:=.cells ((List.replicate 9 (.nd 0 0 none 0 []:TE)).flatMap teC).toArray 72 (0,0)
abbrev q10_0 (t x:TE):SpA:=⟨v10_0 t x,some (f10_0 t x),[0]⟩
abbrev v10_1 (_t _x:TE) (_β:Nat→Nat):Value:=teV (.nd 7 0 none 0 []:TE)
abbrev q10_1 (t x:TE):SpA:=⟨v10_1 t x,none,[]⟩
abbrev v10_2 (_t _x:TE) (β:Nat→Nat):Value:=.slice (some ⟨β 2,0,none⟩) 1 1
abbrev f10_2 (_t _x:TE) (_β:Nat→Nat):Obj:=.cells (([(.nd 7 0 none 0 []:TE)]:List TE).flatMap teC).toArray 72 (0,0)
abbrev q10_2 (t x:TE):SpA:=⟨v10_2 t x,some (f10_2 t x),[2]⟩
abbrev v10_3 (_t _x:TE) (_β:Nat→Nat):Value:=teV (.nd (-1) 0 none 0 []:TE)
abbrev q10_3 (t x:TE):SpA:=⟨v10_3 t x,none,[]⟩
abbrev v10_4 (_t _x:TE) (β:Nat→Nat):Value:=.slice (some ⟨β 4,0,none⟩) 1 1
abbrev f10_4 (_t _x:TE) (_β:Nat→Nat):Obj:=.cells (([(.nd (-1) 0 none 0 []:TE)]:List TE).flatMap teC).toArray 72 (0,0)
abbrev q10_4 (t x:TE):SpA:=⟨v10_4 t x,some (f10_4 t x),[4]⟩
abbrev v10_5 (_t _x:TE) (_β:Nat→Nat):Value:=teV (.nd 0 2147483648 none 0 []:TE)
abbrev q10_5 (t x:TE):SpA:=⟨v10_5 t x,none,[]⟩
abbrev v10_6 (_t _x:TE) (β:Nat→Nat):Value:=.slice (some ⟨β 6,0,none⟩) 1 1
abbrev f10_6 (_t _x:TE) (_β:Nat→Nat):Obj:=.cells (([(.nd 0 2147483648 none 0 []:TE)]:List TE).flatMap teC).toArray 72 (0,0)
abbrev q10_6 (t x:TE):SpA:=⟨v10_6 t x,some (f10_6 t x),[6]⟩
abbrev v10_7 (_t _x:TE) (_β:Nat→Nat):Value:=teV (.nd 1 0 none 0 []:TE)
abbrev q10_7 (t x:TE):SpA:=⟨v10_7 t x,none,[]⟩
abbrev v10_8 (_t _x:TE) (β:Nat→Nat):Value:=.slice (some ⟨β 8,0,none⟩) 1 1
abbrev f10_8 (_t _x:TE) (_β:Nat→Nat):Obj:=.cells (([(.nd 1 0 none 0 []:TE)]:List TE).flatMap teC).toArray 72 (0,0)
abbrev q10_8 (t x:TE):SpA:=⟨v10_8 t x,some (f10_8 t x),[8]⟩
abbrev v10_9 (_t _x:TE) (β:Nat→Nat):Value:=teV (.nd 1 0 (some ⟨β 8,0,none⟩) 1 [(.nd 1 0 none 0 []:TE)]:TE)
abbrev q10_9 (t x:TE):SpA:=⟨v10_9 t x,none,[8]⟩
abbrev v10_10 (_t _x:TE) (β:Nat→Nat):Value:=.slice (some ⟨β 10,0,none⟩) 1 1
abbrev f10_10 (_t _x:TE) (β:Nat→Nat):Obj:=.cells (([(.nd 1 0 (some ⟨β 8,0,none⟩) 1 [(.nd 1 0 none 0 []:TE)]:TE)]:List TE).flatMap teC).toArray 72 (0,0)
abbrev q10_10 (t x:TE):SpA:=⟨v10_10 t x,some (f10_10 t x),[10,8]⟩
abbrev v10_11 (_t _x:TE) (_β:Nat→Nat):Value:=teV (.nd 2 0 none 0 []:TE)
abbrev q10_11 (t x:TE):SpA:=⟨v10_11 t x,none,[]⟩
abbrev v10_12 (_t _x:TE) (β:Nat→Nat):Value:=.slice (some ⟨β 12,0,none⟩) 1 1
abbrev f10_12 (_t _x:TE) (_β:Nat→Nat):Obj:=.cells (([(.nd 2 0 none 0 []:TE)]:List TE).flatMap teC).toArray 72 (0,0)
abbrev q10_12 (t x:TE):SpA:=⟨v10_12 t x,some (f10_12 t x),[12]⟩
abbrev v10_13 (_t _x:TE) (_β:Nat→Nat):Value:=teV (.nd 1 0 none 0 []:TE)
abbrev q10_13 (t x:TE):SpA:=⟨v10_13 t x,none,[]⟩
abbrev v10_14 (_t _x:TE) (_β:Nat→Nat):Value:=teV (.nd 1 0 none 0 []:TE)
abbrev q10_14 (t x:TE):SpA:=⟨v10_14 t x,none,[]⟩
abbrev v10_15 (_t _x:TE) (β:Nat→Nat):Value:=.slice (some ⟨β 15,0,none⟩) 2 2
abbrev f10_15 (_t _x:TE) (_β:Nat→Nat):Obj:=.cells (([(.nd 1 0 none 0 []:TE),(.nd 1 0 none 0 []:TE)]:List TE).flatMap teC).toArray 72 (0,0)
abbrev q10_15 (t x:TE):SpA:=⟨v10_15 t x,some (f10_15 t x),[15]⟩
abbrev v10_16 (_t _x:TE) (β:Nat→Nat):Value:=teV (.nd 3 10 (some ⟨β 15,0,none⟩) 2 [(.nd 1 0 none 0 []:TE),(.nd 1 0 none 0 []:TE)]:TE)
abbrev q10_16 (t x:TE):SpA:=⟨v10_16 t x,none,[15]⟩
abbrev v10_17 (_t _x:TE) (β:Nat→Nat):Value:=.slice (some ⟨β 17,0,none⟩) 1 1
abbrev f10_17 (_t _x:TE) (β:Nat→Nat):Obj:=.cells (([(.nd 3 10 (some ⟨β 15,0,none⟩) 2 [(.nd 1 0 none 0 []:TE),(.nd 1 0 none 0 []:TE)]:TE)]:List TE).flatMap teC).toArray 72 (0,0)
abbrev q10_17 (t x:TE):SpA:=⟨v10_17 t x,some (f10_17 t x),[17,15]⟩
abbrev v10_18 (_t _x:TE) (_β:Nat→Nat):Value:=teV (.nd 1 0 none 0 []:TE)
abbrev q10_18 (t x:TE):SpA:=⟨v10_18 t x,none,[]⟩
abbrev v10_19 (_t _x:TE) (_β:Nat→Nat):Value:=teV (.nd 1 0 none 0 []:TE)
abbrev q10_19 (t x:TE):SpA:=⟨v10_19 t x,none,[]⟩
abbrev v10_20 (_t _x:TE) (β:Nat→Nat):Value:=.slice (some ⟨β 20,0,none⟩) 2 2
abbrev f10_20 (_t _x:TE) (_β:Nat→Nat):Obj:=.cells (([(.nd 1 0 none 0 []:TE),(.nd 1 0 none 0 []:TE)]:List TE).flatMap teC).toArray 72 (0,0)
abbrev q10_20 (t x:TE):SpA:=⟨v10_20 t x,some (f10_20 t x),[20]⟩
abbrev v10_21 (_t _x:TE) (β:Nat→Nat):Value:=teV (.nd 3 (-1) (some ⟨β 20,0,none⟩) 2 [(.nd 1 0 none 0 []:TE),(.nd 1 0 none 0 []:TE)]:TE)
abbrev q10_21 (t x:TE):SpA:=⟨v10_21 t x,none,[20]⟩
abbrev v10_22 (_t _x:TE) (β:Nat→Nat):Value:=.slice (some ⟨β 22,0,none⟩) 1 1
abbrev f10_22 (_t _x:TE) (β:Nat→Nat):Obj:=.cells (([(.nd 3 (-1) (some ⟨β 20,0,none⟩) 2 [(.nd 1 0 none 0 []:TE),(.nd 1 0 none 0 []:TE)]:TE)]:List TE).flatMap teC).toArray 72 (0,0)
abbrev q10_22 (t x:TE):SpA:=⟨v10_22 t x,some (f10_22 t x),[22,20]⟩
abbrev v10_23 (_t _x:TE) (_β:Nat→Nat):Value:=teV (.nd 1 0 none 0 []:TE)
abbrev q10_23 (t x:TE):SpA:=⟨v10_23 t x,none,[]⟩
abbrev v10_24 (_t _x:TE) (β:Nat→Nat):Value:=.slice (some ⟨β 24,0,none⟩) 1 1
abbrev f10_24 (_t _x:TE) (_β:Nat→Nat):Obj:=.cells (([(.nd 1 0 none 0 []:TE)]:List TE).flatMap teC).toArray 72 (0,0)
abbrev q10_24 (t x:TE):SpA:=⟨v10_24 t x,some (f10_24 t x),[24]⟩
abbrev v10_25 (_t _x:TE) (β:Nat→Nat):Value:=teV (.nd 6 1 (some ⟨β 24,0,none⟩) 1 [(.nd 1 0 none 0 []:TE)]:TE)
abbrev q10_25 (t x:TE):SpA:=⟨v10_25 t x,none,[24]⟩
abbrev v10_26 (_t _x:TE) (β:Nat→Nat):Value:=.slice (some ⟨β 26,0,none⟩) 1 1
abbrev f10_26 (_t _x:TE) (β:Nat→Nat):Obj:=.cells (([(.nd 6 1 (some ⟨β 24,0,none⟩) 1 [(.nd 1 0 none 0 []:TE)]:TE)]:List TE).flatMap teC).toArray 72 (0,0)
abbrev q10_26 (t x:TE):SpA:=⟨v10_26 t x,some (f10_26 t x),[26,24]⟩
abbrev v10_27 (t _x:TE) (_β:Nat→Nat):Value:=teV t
abbrev q10_27 (t x:TE):SpA:=⟨v10_27 t x,none,[]⟩
abbrev v10_28 (_t _x:TE) (β:Nat→Nat):Value:=.slice (some ⟨β 28,0,none⟩) 1 1
abbrev f10_28 (t _x:TE) (_β:Nat→Nat):Obj:=.cells (([t]:List TE).flatMap teC).toArray 72 (0,0)
abbrev q10_28 (t x:TE):SpA:=⟨v10_28 t x,some (f10_28 t x),[28]⟩
abbrev v10_29 (_t x:TE) (_β:Nat→Nat):Value:=teV x
abbrev q10_29 (t x:TE):SpA:=⟨v10_29 t x,none,[]⟩
abbrev v10_30 (_t _x:TE) (β:Nat→Nat):Value:=.slice (some ⟨β 30,0,none⟩) 1 1
abbrev f10_30 (_t x:TE) (_β:Nat→Nat):Obj:=.cells (([x]:List TE).flatMap teC).toArray 72 (0,0)
abbrev q10_30 (t x:TE):SpA:=⟨v10_30 t x,some (f10_30 t x),[30]⟩
def segs10 (t x:TE) (β:Nat→Nat):Heap:=[[(β 0,f10_0 t x β)],[(β 2,f10_2 t x β)],[(β 4,f10_4 t x β)],[(β 6,f10_6 t x β)],[(β 8,f10_8 t x β)],[(β 10,f10_10 t x β)],[(β 12,f10_12 t x β)],[(β 15,f10_15 t x β)],[(β 17,f10_17 t x β)],[(β 20,f10_20 t x β)],[(β 22,f10_22 t x β)],[(β 24,f10_24 t x β)],[(β 26,f10_26 t x β)],[(β 28,f10_28 t x β)],[(β 30,f10_30 t x β)]]
def bads10 (t x:TE) (β:Nat→Nat):List BH:=[⟨none,[]⟩,
 ⟨some ⟨β 0,0,none⟩,(List.replicate 9 (.nd 0 0 none 0 []:TE))⟩,
 ⟨some ⟨β 2,0,none⟩,[(.nd 7 0 none 0 []:TE)]⟩,
 ⟨some ⟨β 4,0,none⟩,[(.nd (-1) 0 none 0 []:TE)]⟩,
 ⟨some ⟨β 6,0,none⟩,[(.nd 0 2147483648 none 0 []:TE)]⟩,
 ⟨some ⟨β 10,0,none⟩,[(.nd 1 0 (some ⟨β 8,0,none⟩) 1 [(.nd 1 0 none 0 []:TE)]:TE)]⟩,
 ⟨some ⟨β 12,0,none⟩,[(.nd 2 0 none 0 []:TE)]⟩,
 ⟨some ⟨β 17,0,none⟩,[(.nd 3 10 (some ⟨β 15,0,none⟩) 2 [(.nd 1 0 none 0 []:TE),(.nd 1 0 none 0 []:TE)]:TE)]⟩,
 ⟨some ⟨β 22,0,none⟩,[(.nd 3 (-1) (some ⟨β 20,0,none⟩) 2 [(.nd 1 0 none 0 []:TE),(.nd 1 0 none 0 []:TE)]:TE)]⟩,
 ⟨some ⟨β 26,0,none⟩,[(.nd 6 1 (some ⟨β 24,0,none⟩) 1 [(.nd 1 0 none 0 []:TE)]:TE)]⟩,
 ⟨some ⟨β 28,0,none⟩,[t]⟩,
 ⟨some ⟨β 30,0,none⟩,[x]⟩]
theorem bads_ex {t x:TE} {β:Nat→Nat} (h1:t.ex=tallE 20) (h2:x.ex=longE 10):(bads10 t x β).map (fun b=>b.l.map TE.ex)=badE:=by
 have e:badE=[[],List.replicate 9 noE,[.nd 7 0 []],[.nd (-1) 0 []],[intE 2147483648],[.nd 1 0 [argE]],[.nd 2 0 []],[.nd 3 10 [argE,argE]],[.nd 3 (-1) [argE,argE]],[.nd 6 1 [argE]],[t.ex],[x.ex]]:=by rw [h1,h2]; rfl
 rw [e]; rfl
theorem bads_small (t x:TE) (β:Nat→Nat):∀ b∈bads10 t x β,b.l.length<9223372036854775808:=by
 intro b hb
 unfold bads10 at hb
 rcases List.mem_cons.1 hb with rfl | hb
 ·exact (by decide:0<9223372036854775808)
 rcases List.mem_cons.1 hb with rfl | hb
 ·show (List.replicate 9 _).length<_
  rw [List.length_replicate]; decide
 rcases List.mem_cons.1 hb with rfl | hb
 ·exact (by decide:1<9223372036854775808)
 rcases List.mem_cons.1 hb with rfl | hb
 ·exact (by decide:1<9223372036854775808)
 rcases List.mem_cons.1 hb with rfl | hb
 ·exact (by decide:1<9223372036854775808)
 rcases List.mem_cons.1 hb with rfl | hb
 ·exact (by decide:1<9223372036854775808)
 rcases List.mem_cons.1 hb with rfl | hb
 ·exact (by decide:1<9223372036854775808)
 rcases List.mem_cons.1 hb with rfl | hb
 ·exact (by decide:1<9223372036854775808)
 rcases List.mem_cons.1 hb with rfl | hb
 ·exact (by decide:1<9223372036854775808)
 rcases List.mem_cons.1 hb with rfl | hb
 ·exact (by decide:1<9223372036854775808)
 rcases List.mem_cons.1 hb with rfl | hb
 ·exact (by decide:1<9223372036854775808)
 rcases List.mem_cons.1 hb with rfl | hb
 ·exact (by decide:1<9223372036854775808)
 cases hb
theorem bads_len (t x:TE) (β:Nat→Nat):(bads10 t x β).length=12:=rfl
theorem leaf_tr {op n:Int}:Tr S w0 η (.nd op n none 0 []):=tr_leaf op n
theorem bads_row {t x:TE} {β:Nat→Nat} {b:Nat} (h:[(b,Obj.cells ([.slice none 0 0,.slice (some ⟨β 0,0,none⟩) 9 9,.slice (some ⟨β 2,0,none⟩) 1 1,.slice (some ⟨β 4,0,none⟩) 1 1,.slice (some ⟨β 6,0,none⟩) 1 1,.slice (some ⟨β 10,0,none⟩) 1 1,.slice (some ⟨β 12,0,none⟩) 1 1,.slice (some ⟨β 17,0,none⟩) 1 1,.slice (some ⟨β 22,0,none⟩) 1 1,.slice (some ⟨β 26,0,none⟩) 1 1,.slice (some ⟨β 28,0,none⟩) 1 1,.slice (some ⟨β 30,0,none⟩) 1 1]:List Value).toArray 23 (0,0))]∈η):Row S w0 η (some ⟨b,0,none⟩) ((bads10 t x β).map hdrB) :=
 row_own (cs:=[.slice none 0 0,.slice (some ⟨β 0,0,none⟩) 9 9,.slice (some ⟨β 2,0,none⟩) 1 1,.slice (some ⟨β 4,0,none⟩) 1 1,.slice (some ⟨β 6,0,none⟩) 1 1,.slice (some ⟨β 10,0,none⟩) 1 1,.slice (some ⟨β 12,0,none⟩) 1 1,.slice (some ⟨β 17,0,none⟩) 1 1,.slice (some ⟨β 22,0,none⟩) 1 1,.slice (some ⟨β 26,0,none⟩) 1 1,.slice (some ⟨β 28,0,none⟩) 1 1,.slice (some ⟨β 30,0,none⟩) 1 1]) (e:=23) h
theorem bads_fs {t x:TE} {β:Nat→Nat} (h:∀ s∈segs10 t x β,s∈η) (ht:Tr S w0 η t) (hx:Tr S w0 η x):∀ b∈bads10 t x β,Fs S w0 η b.a b.l:=by
 have h8:Tr S w0 η (.nd 1 0 (some ⟨β 8,0,none⟩) 1 [(.nd 1 0 none 0 []:TE)]:TE):=tr_own (h _ (by simp [segs10])) (Nat.le_refl _) (by simp) fun y hy=>by rw [List.mem_singleton.1 hy]; exact leaf_tr
 have h15:Tr S w0 η (.nd 3 10 (some ⟨β 15,0,none⟩) 2 [(.nd 1 0 none 0 []:TE),(.nd 1 0 none 0 []:TE)]:TE):=tr_own (h _ (by simp [segs10])) (Nat.le_refl _) (by simp) fun y hy=>by
  simp only [List.mem_cons,List.not_mem_nil,or_false] at hy
  rcases hy with rfl | rfl <;> exact leaf_tr
 have h20:Tr S w0 η (.nd 3 (-1) (some ⟨β 20,0,none⟩) 2 [(.nd 1 0 none 0 []:TE),(.nd 1 0 none 0 []:TE)]:TE):=tr_own (h _ (by simp [segs10])) (Nat.le_refl _) (by simp) fun y hy=>by
  simp only [List.mem_cons,List.not_mem_nil,or_false] at hy
  rcases hy with rfl | rfl <;> exact leaf_tr
 have h24:Tr S w0 η (.nd 6 1 (some ⟨β 24,0,none⟩) 1 [(.nd 1 0 none 0 []:TE)]:TE):=tr_own (h _ (by simp [segs10])) (Nat.le_refl _) (by simp) fun y hy=>by rw [List.mem_singleton.1 hy]; exact leaf_tr
 intro b hb
 unfold bads10 at hb
 rcases List.mem_cons.1 hb with rfl | hb
 ·exact ⟨Row.none,fun y hy=>by cases hy⟩
 rcases List.mem_cons.1 hb with rfl | hb
 ·exact ⟨row_own (e:=72) (h _ (by simp [segs10])),fun y hy=>by rw [(List.mem_replicate.1 hy).2]; exact leaf_tr⟩
 rcases List.mem_cons.1 hb with rfl | hb
 ·exact ⟨row_own (e:=72) (h _ (by simp [segs10])),fun y hy=>by rw [List.mem_singleton.1 hy]; exact leaf_tr⟩
 rcases List.mem_cons.1 hb with rfl | hb
 ·exact ⟨row_own (e:=72) (h _ (by simp [segs10])),fun y hy=>by rw [List.mem_singleton.1 hy]; exact leaf_tr⟩
 rcases List.mem_cons.1 hb with rfl | hb
 ·exact ⟨row_own (e:=72) (h _ (by simp [segs10])),fun y hy=>by rw [List.mem_singleton.1 hy]; exact leaf_tr⟩
 rcases List.mem_cons.1 hb with rfl | hb
 ·exact ⟨row_own (e:=72) (h _ (by simp [segs10])),fun y hy=>by rw [List.mem_singleton.1 hy]; exact h8⟩
 rcases List.mem_cons.1 hb with rfl | hb
 ·exact ⟨row_own (e:=72) (h _ (by simp [segs10])),fun y hy=>by rw [List.mem_singleton.1 hy]; exact leaf_tr⟩
 rcases List.mem_cons.1 hb with rfl | hb
 ·exact ⟨row_own (e:=72) (h _ (by simp [segs10])),fun y hy=>by rw [List.mem_singleton.1 hy]; exact h15⟩
 rcases List.mem_cons.1 hb with rfl | hb
 ·exact ⟨row_own (e:=72) (h _ (by simp [segs10])),fun y hy=>by rw [List.mem_singleton.1 hy]; exact h20⟩
 rcases List.mem_cons.1 hb with rfl | hb
 ·exact ⟨row_own (e:=72) (h _ (by simp [segs10])),fun y hy=>by rw [List.mem_singleton.1 hy]; exact h24⟩
 rcases List.mem_cons.1 hb with rfl | hb
 ·exact ⟨row_own (e:=72) (h _ (by simp [segs10])),fun y hy=>by rw [List.mem_singleton.1 hy]; exact ht⟩
 rcases List.mem_cons.1 hb with rfl | hb
 ·exact ⟨row_own (e:=72) (h _ (by simp [segs10])),fun y hy=>by rw [List.mem_singleton.1 hy]; exact hx⟩
 cases hb
theorem mem2 {s a b:Seg} (h:s=a∨s=b):s∈[a,b]:=by rcases h with rfl | rfl <;> simp
theorem mem4 {s a b c d:Seg} (h:s=a∨s=b∨s=c∨s=d):s∈[a,b,c,d]:=by rcases h with rfl | rfl | rfl | rfl <;> simp
theorem gl29 {b1 b2 b3:Nat} (h3:[(b3,Obj.cells #[.slice (some ⟨b1,0,none⟩) 1 1,.slice (some ⟨b2,0,none⟩) 31 31] 38 (0,0))]∈η) (h1:[(b1,Obj.cells (([(1,0)]:List Key).flatMap kC).toArray 60 (0,0))]∈η) (h2:[(b2,Obj.cells (List.replicate (31*2) (.int .i64 0)).toArray 60 (0,0))]∈η):GL kC S w0 η (some ⟨b3,0,none⟩) [(some ⟨b1,0,none⟩,[(1,0)],1),(some ⟨b2,0,none⟩,zeroK 31,31)]:=by
 refine ⟨?_,fun p hp=>?_⟩
 ·have e:([(some ⟨b1,0,none⟩,[(1,0)],1),(some ⟨b2,0,none⟩,zeroK 31,31)]:List EH).map ghc=[.slice (some ⟨b1,0,none⟩) 1 1,.slice (some ⟨b2,0,none⟩) 31 31]:=by
   simp only [List.map_cons,List.map_nil,ghc,zeroK,List.length_replicate]; rfl
  rw [e]
  exact row_own (e:=38) h3
 ·simp only [List.mem_cons,List.not_mem_nil,or_false] at hp
  rcases hp with rfl | rfl
  ·exact row_own (e:=60) h1
  ·show Row _ _ _ _ ((zeroK 31).flatMap kC)
   rw [zeroK_cells]
   exact row_own (e:=60) h2
theorem small29 {a b:Option Addr} {c d:Nat}:∀ p∈([(a,[(1,0)],c),(b,zeroK 31,d)]:List EH),p.2.1.length<9223372036854775808:=fun p hp=>by
 simp only [List.mem_cons,List.not_mem_nil,or_false] at hp
 rcases hp with rfl | rfl
 ·exact (by decide:1<9223372036854775808)
 ·show (zeroK 31).length<_
  unfold zeroK; rw [List.length_replicate]; decide
theorem zfillK (k:Nat):((Array.range (k*2)).map fun i=>(Value.agg #[.int .i64 0,.int .i64 0]).cells[i % (Value.agg #[.int .i64 0,.int .i64 0]).cells.size]!)=(List.replicate (k*2) (Value.int .i64 0)).toArray:=by
 apply Array.ext
 ·simp
 ·intro i h1 h2
  simp only [Array.getElem_map,Array.getElem_range,List.getElem_toArray,List.getElem_replicate]
  show (#[Value.int .i64 0,Value.int .i64 0]:Array Value)[i % 2]! = _
  have:i % 2=0∨i % 2=1:=by omega
  rcases this with e | e <;> rw [e] <;> rfl
set_option maxHeartbeats 16000000 in
theorem TraceKnown_fn (hT : Tabs S w0) :
  Rt Tryd.prog 8 [].toArray S w0 η (fun v _=>v = .bool true):=by
 have hF:=open_wide
 refine Rt.of (fn:=Tryd.f8) Tryd.func8 rfl rfl ?_
 refine T.seq ?_
 refine T.region ?_
 refine TL.assign hF rfl rfl ?_
 refine TL.nil ?_
 refine TQ.then_n ?_
 refine T.seq ?_
 refine T.region ?_
 have hb:=Back.refl S w0
 refine TL.callV hF of_fn rfl rfl ?_
 refine TL.callV hF (of_fn) rfl rfl ?_
 refine TL.alloc hF rfl (fun b1=>?_)
 refine TL.alloc hF rfl (fun b2=>?_)
 refine TL.storeAI hF (teC argT) 1 rfl rfl rfl rfl (teC1 _) (by simp [Value.cells,teC]) ?_
 refine TL.storeAI hF (teC argT) 0 rfl rfl rfl rfl (teC1 _) (by simp [Value.cells,teC]) ?_
 refine TL.nil ?_
 refine TQ.then_n ?_
 refine T.seq ?_
 refine T.seq ?_
 refine T.region ?_
 refine TL.assign hF rfl rfl ?_
 refine TL.nil ?_
 refine TQ.then_n ?_
 refine T.block ?_
 refine T.heap (η':=[(b2,Obj.cells (teC argT).toArray 72 (0,0))]::[(b1,Obj.cells (teC argT).toArray 72 (0,0))]::([]++η)) rfl ?_
 refine T.loop (ι:=KI) (fun z=>z.i≤20∧z.t.ex=tallE z.i∧Tr S w0 z.H z.t) (fun z=>[(0,.bool false),(1,ptr b1),(2,ptr b2),(3,.int .i64 (z.i:Int))]) (fun z=>[(b2,Obj.cells (teC z.t).toArray 72 (0,0))]::[(b1,Obj.cells (teC argT).toArray 72 (0,0))]::(z.H++η)) (fun z=>20 - z.i) ⟨0,argT,[]⟩ ⟨Nat.zero_le _,rfl,leaf_tr⟩ ⟨rfl,rfl,rfl,rfl,trivial⟩ rfl ?_
 rintro ⟨i,t,HH⟩ ⟨hi,hte,htr⟩
 dsimp only at hi hte htr
 refine T.seq ?_
 refine T.seq ?_
 refine T.region ?_
 refine TL.move hF rfl rfl ?_
 refine TL.bin hF rfl rfl rfl rfl ?_
 refine TL.nil ?_
 refine TQ.then_n ?_
 first | refine T.cond_d rfl (fun ht45=>?_) (fun ht45=>?_) | refine T.cond _ rfl (fun ht45=>?_) (fun ht45=>?_)
 ·refine T.skip ?_
  refine TQ.then_n ?_
  refine T.seq ?_
  refine T.block ?_
  refine T.region ?_
  refine TL.loadA hF (teC t) rfl rfl (own_list (i:=0) (cs:=teC t) rfl) rfl ?_
  refine TL.buildSlice hF rfl (cs:=(([t]:List TE).flatMap teC).toArray) (e:=72) (fun w=>by kernel_rfl) rfl (fun bq=>?_)
  refine TL.callV hF (of_fn) rfl rfl ?_
  refine TL.storeAI hF (teC (.nd 2 0 (some ⟨bq,0,none⟩) 1 [t]:TE)) 1 rfl rfl rfl rfl (teC1 _) (by simp [teC]) ?_
  refine TL.nil ?_
  refine TQ.block_n ?_
  refine TQ.then_n ?_
  refine T.region ?_
  refine TL.move hF rfl rfl ?_
  refine TL.add hF rfl rfl (by first | omega | (dsimp only; omega)) (by first | omega | (dsimp only; omega)) rfl ?_
  refine TL.assign hF rfl rfl ?_
  refine TL.nil ?_
  have hil:i<20:=by have h:(i:Int)<20:=ht45; omega
  refine TQ.heap (η':=[(bq,Obj.cells (([t]:List TE).flatMap teC).toArray 72 (0,0))]::[(b2,Obj.cells (teC (.nd 2 0 (some ⟨bq,0,none⟩) 1 [t]:TE)).toArray 72 (0,0))]::[(b1,Obj.cells (teC argT).toArray 72 (0,0))]::(HH++η)) rfl ?_
  refine TQ.hperm ([(b2,Obj.cells (teC (.nd 2 0 (some ⟨bq,0,none⟩) 1 [t]:TE)).toArray 72 (0,0))]::[(b1,Obj.cells (teC argT).toArray 72 (0,0))]::(([(bq,Obj.cells (([t]:List TE).flatMap teC).toArray 72 (0,0))]::HH)++η)) (perm_cnt fun f=>by simp only [List.map_append,List.map_cons,List.sum_append,List.sum_cons]; try omega) ?_
  refine TQ.round ⟨i+1,(.nd 2 0 (some ⟨bq,0,none⟩) 1 [t]:TE),[(bq,Obj.cells (([t]:List TE).flatMap teC).toArray 72 (0,0))]::HH⟩ ⟨hil,?_,tr_own List.mem_cons_self (Nat.le_refl _) (by simp) fun y hy=>by rw [List.mem_singleton.1 hy]; exact htr.up (fun _ hs=>List.mem_cons_of_mem _ hs)⟩ (by dsimp only; omega) ⟨rfl,rfl,rfl,rfl,trivial⟩ rfl
  show Ex.nd 2 0 [t.ex]=_
  rw [hte]; rfl
 ·refine T.exit ?_
  refine TQ.then_x ?_
  refine TQ.then_x ?_
  refine TQ.block_x ?_
  refine TQ.then_n ?_
  refine T.seq ?_
  refine T.seq ?_
  refine T.region ?_
  refine TL.assign hF rfl rfl ?_
  refine TL.nil ?_
  refine TQ.then_n ?_
  refine T.block ?_
  have hie:i=20:=by have h:¬ (i:Int)<20:=ht45; omega
  rw [hie] at hte
  clear hie hi
  refine T.heap (η':=[(b2,Obj.cells (teC t).toArray 72 (0,0))]::[(b1,Obj.cells (teC argT).toArray 72 (0,0))]::([]++(HH++η))) rfl ?_
  refine T.loop (ι:=KI) (fun z=>z.i≤10∧z.t.ex=longE z.i∧Tr S w0 z.H z.t) (fun z=>[(0,.bool false),(1,ptr b1),(2,ptr b2),(4,.int .i64 (z.i:Int))]) (fun z=>[(b2,Obj.cells (teC t).toArray 72 (0,0))]::[(b1,Obj.cells (teC z.t).toArray 72 (0,0))]::(z.H++(HH++η))) (fun z=>10 - z.i) ⟨0,argT,[]⟩ ⟨Nat.zero_le _,rfl,leaf_tr⟩ ⟨rfl,rfl,rfl,rfl,trivial⟩ rfl ?_
  rintro ⟨j,x,HX⟩ ⟨hj,hxe,hxr⟩
  dsimp only at hj hxe hxr
  refine T.seq ?_
  refine T.seq ?_
  refine T.region ?_
  refine TL.move hF rfl rfl ?_
  refine TL.bin hF rfl rfl rfl rfl ?_
  refine TL.nil ?_
  refine TQ.then_n ?_
  first | refine T.cond_d rfl (fun ht52=>?_) (fun ht52=>?_) | refine T.cond _ rfl (fun ht52=>?_) (fun ht52=>?_)
  ·refine T.skip ?_
   refine TQ.then_n ?_
   refine T.seq ?_
   refine T.block ?_
   refine T.drawH 6 mixed ?_
   refine DH.pure (i:=0) [] rfl rfl rfl rfl trivial (fun _ ext=>TL.callV hF (of_fn) rfl rfl TL.fin) ?_
   refine DH.pure (i:=1) [] rfl rfl rfl rfl trivial (fun _ ext=>TL.callV hF (of_fn) rfl rfl TL.fin) ?_
   refine DH.read (i:=5) [(1,_,none)] rfl rfl rfl rfl ⟨⟨rfl,by kernel_rfl⟩,trivial⟩ (fun ext=>TL.loadA hF (teC x) rfl rfl (own_listM (b:=b1) (cs:=teC x) (e:=72) (fz:=(0,0)) (by simp)) rfl TL.fin) ?_
   refine DH.k1 (by kernel_rfl) (by kernel_rfl) (by kernel_rfl) (by kernel_rfl) (HBK.mk (h:=2) [5] [(55,_,some 0),(56,_,some 1)] rfl rfl rfl ⟨⟨rfl,rfl,rfl⟩,⟨rfl,rfl,rfl⟩,trivial⟩ (by kernel_rfl) (fun ext=>?_))
   refine TL.buildSlice hF rfl (cs:=(([argT,argT]:List TE).flatMap teC).toArray) (e:=72) (fun w=>by kernel_rfl) rfl (fun bp=>?_)
   refine TL.finK ⟨⟨_,rfl,_,_,[(1,_,none)],rfl,rfl,⟨⟨rfl,by kernel_rfl⟩,trivial⟩,fun ext=>TL.loadA hF (teC x) rfl rfl (own_listM (b:=b1) (cs:=teC x) (e:=72) (fz:=(0,0)) (by simp)) rfl TL.fin⟩,trivial⟩ ?_
   refine DH.pure (i:=3) [(57,_,some 2)] rfl rfl rfl rfl ⟨⟨rfl,rfl,rfl⟩,trivial⟩ (fun _ ext=>TL.callV hF (of_fn) rfl rfl TL.fin) ?_
   refine DH.pure (i:=4) [] rfl rfl rfl rfl trivial (fun _ ext=>TL.callV hF (of_fn) rfl rfl TL.fin) ?_
   refine DH.done [(59,_),(58,_),(57,_),(60,_),(56,_),(55,_)] [_,_,_] (by kernel_rfl) (by kernel_rfl) (by kernel_rfl) (by kernel_rfl) rfl rfl ?_
   refine TL.buildSlice hF rfl (cs:=(([(.nd 4 0 (some ⟨bp,0,none⟩) 2 [argT,argT]:TE),argT,x]:List TE).flatMap teC).toArray) (e:=72) (fun w=>by kernel_rfl) rfl (fun bq=>?_)
   refine TL.callV hF (of_fn) rfl rfl ?_
   refine TL.storeAI hF (teC (.nd 5 0 (some ⟨bq,0,none⟩) 3 [(.nd 4 0 (some ⟨bp,0,none⟩) 2 [argT,argT]:TE),argT,x]:TE)) 3 rfl rfl rfl rfl (teC1 _) (by simp [teC]) ?_
   refine TL.nil ?_
   refine TQ.block_n ?_
   refine TQ.then_n ?_
   refine T.region ?_
   refine TL.move hF rfl rfl ?_
   refine TL.add hF rfl rfl (by first | omega | (dsimp only; omega)) (by first | omega | (dsimp only; omega)) rfl ?_
   refine TL.assign hF rfl rfl ?_
   refine TL.nil ?_
   have hjl:j<10:=by have h:(j:Int)<10:=ht52; omega
   refine TQ.heap (η':=[(bq,Obj.cells (([(.nd 4 0 (some ⟨bp,0,none⟩) 2 [argT,argT]:TE),argT,x]:List TE).flatMap teC).toArray 72 (0,0))]::[(bp,Obj.cells (([argT,argT]:List TE).flatMap teC).toArray 72 (0,0))]::[(b2,Obj.cells (teC t).toArray 72 (0,0))]::[(b1,Obj.cells (teC (.nd 5 0 (some ⟨bq,0,none⟩) 3 [(.nd 4 0 (some ⟨bp,0,none⟩) 2 [argT,argT]:TE),argT,x]:TE)).toArray 72 (0,0))]::(HX++(HH++η))) rfl ?_
   refine TQ.hperm ([(b2,Obj.cells (teC t).toArray 72 (0,0))]::[(b1,Obj.cells (teC (.nd 5 0 (some ⟨bq,0,none⟩) 3 [(.nd 4 0 (some ⟨bp,0,none⟩) 2 [argT,argT]:TE),argT,x]:TE)).toArray 72 (0,0))]::(([(bq,Obj.cells (([(.nd 4 0 (some ⟨bp,0,none⟩) 2 [argT,argT]:TE),argT,x]:List TE).flatMap teC).toArray 72 (0,0))]::[(bp,Obj.cells (([argT,argT]:List TE).flatMap teC).toArray 72 (0,0))]::HX)++(HH++η))) (perm_cnt fun f=>by simp only [List.map_append,List.map_cons,List.sum_append,List.sum_cons]; try omega) ?_
   have hl4:Tr S w0 ([(bq,Obj.cells (([(.nd 4 0 (some ⟨bp,0,none⟩) 2 [argT,argT]:TE),argT,x]:List TE).flatMap teC).toArray 72 (0,0))]::[(bp,Obj.cells (([argT,argT]:List TE).flatMap teC).toArray 72 (0,0))]::HX) (.nd 4 0 (some ⟨bp,0,none⟩) 2 [argT,argT]:TE):=tr_own (List.mem_cons_of_mem _ List.mem_cons_self) (Nat.le_refl _) (by simp) fun y hy=>by
    simp only [List.mem_cons,List.not_mem_nil,or_false] at hy
    rcases hy with rfl | rfl <;> exact leaf_tr
   refine TQ.round ⟨j+1,(.nd 5 0 (some ⟨bq,0,none⟩) 3 [(.nd 4 0 (some ⟨bp,0,none⟩) 2 [argT,argT]:TE),argT,x]:TE),[(bq,Obj.cells (([(.nd 4 0 (some ⟨bp,0,none⟩) 2 [argT,argT]:TE),argT,x]:List TE).flatMap teC).toArray 72 (0,0))]::[(bp,Obj.cells (([argT,argT]:List TE).flatMap teC).toArray 72 (0,0))]::HX⟩ ⟨hjl,?_,tr_own List.mem_cons_self (Nat.le_refl _) (by simp) fun y hy=>?_⟩ (by dsimp only; omega) ⟨rfl,rfl,rfl,rfl,trivial⟩ rfl
   ·show Ex.nd 5 0 [.nd 4 0 [argE,argE],argE,x.ex]=_
    rw [hxe]; rfl
   ·simp only [List.mem_cons,List.not_mem_nil,or_false] at hy
    rcases hy with rfl | rfl | rfl
    ·exact hl4
    ·exact leaf_tr
    ·exact hxr.up (fun _ hs=>List.mem_cons_of_mem _ (List.mem_cons_of_mem _ hs))
  ·refine T.exit ?_
   refine TQ.then_x ?_
   refine TQ.then_x ?_
   refine TQ.block_x ?_
   refine TQ.then_n ?_
   refine T.seq ?_
   have hje:j=10:=by have h:¬ (j:Int)<10:=ht52; omega
   rw [hje] at hxe
   clear hje hj
   refine T.heap (η':=([[(b2,Obj.cells (teC t).toArray 72 (0,0))],[(b1,Obj.cells (teC x).toArray 72 (0,0))]]++(HX++HH))++η) (by simp) ?_
   have htr2:Tr S w0 ([[(b2,Obj.cells (teC t).toArray 72 (0,0))],[(b1,Obj.cells (teC x).toArray 72 (0,0))]]++(HX++HH)) t:=htr.up (fun _ hs=>by simp [hs])
   have hxr2:Tr S w0 ([[(b2,Obj.cells (teC t).toArray 72 (0,0))],[(b1,Obj.cells (teC x).toArray 72 (0,0))]]++(HX++HH)) x:=hxr.up (fun _ hs=>by simp [hs])
   have ht2:Row S w0 ([[(b2,Obj.cells (teC t).toArray 72 (0,0))],[(b1,Obj.cells (teC x).toArray 72 (0,0))]]++(HX++HH)) (some ⟨b2,0,none⟩) (([t]:List TE).flatMap teC):=row_own (cs:=([t]:List TE).flatMap teC) (e:=72) (by simp)
   have hx2:Row S w0 ([[(b2,Obj.cells (teC t).toArray 72 (0,0))],[(b1,Obj.cells (teC x).toArray 72 (0,0))]]++(HX++HH)) (some ⟨b1,0,none⟩) (([x]:List TE).flatMap teC):=row_own (cs:=([x]:List TE).flatMap teC) (e:=72) (by simp)
   refine T.freeze ([[(b2,Obj.cells (teC t).toArray 72 (0,0))],[(b1,Obj.cells (teC x).toArray 72 (0,0))]]++(HX++HH)) rfl (fun S1 w1 hz1=>?_)
   replace hb:=hb.frz hz1
   replace hT:=hT.old hz1
   replace htr2:=htr2.frz hz1
   replace hxr2:=hxr2.frz hz1
   replace ht2:=ht2.frz hz1
   replace hx2:=hx2.frz hz1
   refine T.drawA ?_
   refine DA.stepB [q10_0 t x] (v10_0 t x) (f10_0 t x) [0] rfl rfl rfl (fun β=>rfl) (fun β=>rfl) (by kernel_rfl) (fun β=>⟨[],trivial,fun ext η=>TL.makeSliceN hF (k:=9) rfl rfl ((List.replicate 9 (.nd 0 0 none 0 []:TE)).flatMap teC) (by apply Array.toList_inj.1; rw [Array.toList_map,Array.toList_range]; rfl) (by decide) (by decide) (by decide) (by decide) rfl (fun b=>TL.finA b rfl rfl)⟩) ?_
   refine DA.stepV [q10_0 t x,q10_1 t x] (v10_1 t x) [] rfl rfl rfl (fun β=>rfl) (by kernel_rfl) (fun β=>⟨[],trivial,fun ext η=>TL.callV hF of_fn rfl rfl TL.fin⟩) ?_
   refine DA.stepB [q10_0 t x,q10_1 t x,q10_2 t x] (v10_2 t x) (f10_2 t x) [2] rfl rfl rfl (fun β=>rfl) (fun β=>rfl) (by kernel_rfl) (fun β=>⟨[(64,_,some 1)],⟨⟨rfl,rfl,_,rfl,rfl⟩,trivial⟩,fun ext η=>TL.buildSlice hF rfl (cs:=(([(.nd 7 0 none 0 []:TE)]:List TE).flatMap teC).toArray) (e:=72) (fun w=>by kernel_rfl) rfl (fun b=>TL.finA b rfl rfl)⟩) ?_
   refine DA.stepV [q10_0 t x,q10_1 t x,q10_2 t x,q10_3 t x] (v10_3 t x) [] rfl rfl rfl (fun β=>rfl) (by kernel_rfl) (fun β=>⟨[],trivial,fun ext η=>TL.callV hF of_fn rfl rfl TL.fin⟩) ?_
   refine DA.stepB [q10_0 t x,q10_1 t x,q10_2 t x,q10_3 t x,q10_4 t x] (v10_4 t x) (f10_4 t x) [4] rfl rfl rfl (fun β=>rfl) (fun β=>rfl) (by kernel_rfl) (fun β=>⟨[(66,_,some 3)],⟨⟨rfl,rfl,_,rfl,rfl⟩,trivial⟩,fun ext η=>TL.buildSlice hF rfl (cs:=(([(.nd (-1) 0 none 0 []:TE)]:List TE).flatMap teC).toArray) (e:=72) (fun w=>by kernel_rfl) rfl (fun b=>TL.finA b rfl rfl)⟩) ?_
   refine DA.stepV [q10_0 t x,q10_1 t x,q10_2 t x,q10_3 t x,q10_4 t x,q10_5 t x] (v10_5 t x) [] rfl rfl rfl (fun β=>rfl) (by kernel_rfl) (fun β=>⟨[],trivial,fun ext η=>TL.callV hF of_fn rfl rfl TL.fin⟩) ?_
   refine DA.stepB [q10_0 t x,q10_1 t x,q10_2 t x,q10_3 t x,q10_4 t x,q10_5 t x,q10_6 t x] (v10_6 t x) (f10_6 t x) [6] rfl rfl rfl (fun β=>rfl) (fun β=>rfl) (by kernel_rfl) (fun β=>⟨[(68,_,some 5)],⟨⟨rfl,rfl,_,rfl,rfl⟩,trivial⟩,fun ext η=>TL.buildSlice hF rfl (cs:=(([(.nd 0 2147483648 none 0 []:TE)]:List TE).flatMap teC).toArray) (e:=72) (fun w=>by kernel_rfl) rfl (fun b=>TL.finA b rfl rfl)⟩) ?_
   refine DA.stepV [q10_0 t x,q10_1 t x,q10_2 t x,q10_3 t x,q10_4 t x,q10_5 t x,q10_6 t x,q10_7 t x] (v10_7 t x) [] rfl rfl rfl (fun β=>rfl) (by kernel_rfl) (fun β=>⟨[],trivial,fun ext η=>TL.callV hF of_fn rfl rfl TL.fin⟩) ?_
   refine DA.stepB [q10_0 t x,q10_1 t x,q10_2 t x,q10_3 t x,q10_4 t x,q10_5 t x,q10_6 t x,q10_7 t x,q10_8 t x] (v10_8 t x) (f10_8 t x) [8] rfl rfl rfl (fun β=>rfl) (fun β=>rfl) (by kernel_rfl) (fun β=>⟨[(70,_,some 7)],⟨⟨rfl,rfl,_,rfl,rfl⟩,trivial⟩,fun ext η=>TL.buildSlice hF rfl (cs:=(([(.nd 1 0 none 0 []:TE)]:List TE).flatMap teC).toArray) (e:=72) (fun w=>by kernel_rfl) rfl (fun b=>TL.finA b rfl rfl)⟩) ?_
   refine DA.stepV [q10_0 t x,q10_1 t x,q10_2 t x,q10_3 t x,q10_4 t x,q10_5 t x,q10_6 t x,q10_7 t x,q10_8 t x,q10_9 t x] (v10_9 t x) [8] rfl rfl rfl (fun β=>rfl) (by kernel_rfl) (fun β=>⟨[(71,_,some 8)],⟨⟨rfl,rfl,_,rfl,rfl⟩,trivial⟩,fun ext η=>TL.callV hF of_fn rfl rfl TL.fin⟩) ?_
   refine DA.stepB [q10_0 t x,q10_1 t x,q10_2 t x,q10_3 t x,q10_4 t x,q10_5 t x,q10_6 t x,q10_7 t x,q10_8 t x,q10_9 t x,q10_10 t x] (v10_10 t x) (f10_10 t x) [10,8] rfl rfl rfl (fun β=>rfl) (fun β=>rfl) (by kernel_rfl) (fun β=>⟨[(72,_,some 9)],⟨⟨rfl,rfl,_,rfl,rfl⟩,trivial⟩,fun ext η=>TL.buildSlice hF rfl (cs:=(([(.nd 1 0 (some ⟨β 8,0,none⟩) 1 [(.nd 1 0 none 0 []:TE)]:TE)]:List TE).flatMap teC).toArray) (e:=72) (fun w=>by kernel_rfl) rfl (fun b=>TL.finA b rfl rfl)⟩) ?_
   refine DA.stepV [q10_0 t x,q10_1 t x,q10_2 t x,q10_3 t x,q10_4 t x,q10_5 t x,q10_6 t x,q10_7 t x,q10_8 t x,q10_9 t x,q10_10 t x,q10_11 t x] (v10_11 t x) [] rfl rfl rfl (fun β=>rfl) (by kernel_rfl) (fun β=>⟨[],trivial,fun ext η=>TL.callV hF of_fn rfl rfl TL.fin⟩) ?_
   refine DA.stepB [q10_0 t x,q10_1 t x,q10_2 t x,q10_3 t x,q10_4 t x,q10_5 t x,q10_6 t x,q10_7 t x,q10_8 t x,q10_9 t x,q10_10 t x,q10_11 t x,q10_12 t x] (v10_12 t x) (f10_12 t x) [12] rfl rfl rfl (fun β=>rfl) (fun β=>rfl) (by kernel_rfl) (fun β=>⟨[(74,_,some 11)],⟨⟨rfl,rfl,_,rfl,rfl⟩,trivial⟩,fun ext η=>TL.buildSlice hF rfl (cs:=(([(.nd 2 0 none 0 []:TE)]:List TE).flatMap teC).toArray) (e:=72) (fun w=>by kernel_rfl) rfl (fun b=>TL.finA b rfl rfl)⟩) ?_
   refine DA.stepV [q10_0 t x,q10_1 t x,q10_2 t x,q10_3 t x,q10_4 t x,q10_5 t x,q10_6 t x,q10_7 t x,q10_8 t x,q10_9 t x,q10_10 t x,q10_11 t x,q10_12 t x,q10_13 t x] (v10_13 t x) [] rfl rfl rfl (fun β=>rfl) (by kernel_rfl) (fun β=>⟨[],trivial,fun ext η=>TL.callV hF of_fn rfl rfl TL.fin⟩) ?_
   refine DA.stepV [q10_0 t x,q10_1 t x,q10_2 t x,q10_3 t x,q10_4 t x,q10_5 t x,q10_6 t x,q10_7 t x,q10_8 t x,q10_9 t x,q10_10 t x,q10_11 t x,q10_12 t x,q10_13 t x,q10_14 t x] (v10_14 t x) [] rfl rfl rfl (fun β=>rfl) (by kernel_rfl) (fun β=>⟨[],trivial,fun ext η=>TL.callV hF of_fn rfl rfl TL.fin⟩) ?_
   refine DA.stepB [q10_0 t x,q10_1 t x,q10_2 t x,q10_3 t x,q10_4 t x,q10_5 t x,q10_6 t x,q10_7 t x,q10_8 t x,q10_9 t x,q10_10 t x,q10_11 t x,q10_12 t x,q10_13 t x,q10_14 t x,q10_15 t x] (v10_15 t x) (f10_15 t x) [15] rfl rfl rfl (fun β=>rfl) (fun β=>rfl) (by kernel_rfl) (fun β=>⟨[(76,_,some 13),(77,_,some 14)],⟨⟨rfl,rfl,_,rfl,rfl⟩,⟨rfl,rfl,_,rfl,rfl⟩,trivial⟩,fun ext η=>TL.buildSlice hF rfl (cs:=(([(.nd 1 0 none 0 []:TE),(.nd 1 0 none 0 []:TE)]:List TE).flatMap teC).toArray) (e:=72) (fun w=>by kernel_rfl) rfl (fun b=>TL.finA b rfl rfl)⟩) ?_
   refine DA.stepV [q10_0 t x,q10_1 t x,q10_2 t x,q10_3 t x,q10_4 t x,q10_5 t x,q10_6 t x,q10_7 t x,q10_8 t x,q10_9 t x,q10_10 t x,q10_11 t x,q10_12 t x,q10_13 t x,q10_14 t x,q10_15 t x,q10_16 t x] (v10_16 t x) [15] rfl rfl rfl (fun β=>rfl) (by kernel_rfl) (fun β=>⟨[(78,_,some 15)],⟨⟨rfl,rfl,_,rfl,rfl⟩,trivial⟩,fun ext η=>TL.callV hF of_fn rfl rfl TL.fin⟩) ?_
   refine DA.stepB [q10_0 t x,q10_1 t x,q10_2 t x,q10_3 t x,q10_4 t x,q10_5 t x,q10_6 t x,q10_7 t x,q10_8 t x,q10_9 t x,q10_10 t x,q10_11 t x,q10_12 t x,q10_13 t x,q10_14 t x,q10_15 t x,q10_16 t x,q10_17 t x] (v10_17 t x) (f10_17 t x) [17,15] rfl rfl rfl (fun β=>rfl) (fun β=>rfl) (by kernel_rfl) (fun β=>⟨[(79,_,some 16)],⟨⟨rfl,rfl,_,rfl,rfl⟩,trivial⟩,fun ext η=>TL.buildSlice hF rfl (cs:=(([(.nd 3 10 (some ⟨β 15,0,none⟩) 2 [(.nd 1 0 none 0 []:TE),(.nd 1 0 none 0 []:TE)]:TE)]:List TE).flatMap teC).toArray) (e:=72) (fun w=>by kernel_rfl) rfl (fun b=>TL.finA b rfl rfl)⟩) ?_
   refine DA.stepV [q10_0 t x,q10_1 t x,q10_2 t x,q10_3 t x,q10_4 t x,q10_5 t x,q10_6 t x,q10_7 t x,q10_8 t x,q10_9 t x,q10_10 t x,q10_11 t x,q10_12 t x,q10_13 t x,q10_14 t x,q10_15 t x,q10_16 t x,q10_17 t x,q10_18 t x] (v10_18 t x) [] rfl rfl rfl (fun β=>rfl) (by kernel_rfl) (fun β=>⟨[],trivial,fun ext η=>TL.callV hF of_fn rfl rfl TL.fin⟩) ?_
   refine DA.stepV [q10_0 t x,q10_1 t x,q10_2 t x,q10_3 t x,q10_4 t x,q10_5 t x,q10_6 t x,q10_7 t x,q10_8 t x,q10_9 t x,q10_10 t x,q10_11 t x,q10_12 t x,q10_13 t x,q10_14 t x,q10_15 t x,q10_16 t x,q10_17 t x,q10_18 t x,q10_19 t x] (v10_19 t x) [] rfl rfl rfl (fun β=>rfl) (by kernel_rfl) (fun β=>⟨[],trivial,fun ext η=>TL.callV hF of_fn rfl rfl TL.fin⟩) ?_
   refine DA.stepB [q10_0 t x,q10_1 t x,q10_2 t x,q10_3 t x,q10_4 t x,q10_5 t x,q10_6 t x,q10_7 t x,q10_8 t x,q10_9 t x,q10_10 t x,q10_11 t x,q10_12 t x,q10_13 t x,q10_14 t x,q10_15 t x,q10_16 t x,q10_17 t x,q10_18 t x,q10_19 t x,q10_20 t x] (v10_20 t x) (f10_20 t x) [20] rfl rfl rfl (fun β=>rfl) (fun β=>rfl) (by kernel_rfl) (fun β=>⟨[(81,_,some 18),(82,_,some 19)],⟨⟨rfl,rfl,_,rfl,rfl⟩,⟨rfl,rfl,_,rfl,rfl⟩,trivial⟩,fun ext η=>TL.buildSlice hF rfl (cs:=(([(.nd 1 0 none 0 []:TE),(.nd 1 0 none 0 []:TE)]:List TE).flatMap teC).toArray) (e:=72) (fun w=>by kernel_rfl) rfl (fun b=>TL.finA b rfl rfl)⟩) ?_
   refine DA.stepV [q10_0 t x,q10_1 t x,q10_2 t x,q10_3 t x,q10_4 t x,q10_5 t x,q10_6 t x,q10_7 t x,q10_8 t x,q10_9 t x,q10_10 t x,q10_11 t x,q10_12 t x,q10_13 t x,q10_14 t x,q10_15 t x,q10_16 t x,q10_17 t x,q10_18 t x,q10_19 t x,q10_20 t x,q10_21 t x] (v10_21 t x) [20] rfl rfl rfl (fun β=>rfl) (by kernel_rfl) (fun β=>⟨[(83,_,some 20)],⟨⟨rfl,rfl,_,rfl,rfl⟩,trivial⟩,fun ext η=>TL.callV hF of_fn rfl rfl TL.fin⟩) ?_
   refine DA.stepB [q10_0 t x,q10_1 t x,q10_2 t x,q10_3 t x,q10_4 t x,q10_5 t x,q10_6 t x,q10_7 t x,q10_8 t x,q10_9 t x,q10_10 t x,q10_11 t x,q10_12 t x,q10_13 t x,q10_14 t x,q10_15 t x,q10_16 t x,q10_17 t x,q10_18 t x,q10_19 t x,q10_20 t x,q10_21 t x,q10_22 t x] (v10_22 t x) (f10_22 t x) [22,20] rfl rfl rfl (fun β=>rfl) (fun β=>rfl) (by kernel_rfl) (fun β=>⟨[(84,_,some 21)],⟨⟨rfl,rfl,_,rfl,rfl⟩,trivial⟩,fun ext η=>TL.buildSlice hF rfl (cs:=(([(.nd 3 (-1) (some ⟨β 20,0,none⟩) 2 [(.nd 1 0 none 0 []:TE),(.nd 1 0 none 0 []:TE)]:TE)]:List TE).flatMap teC).toArray) (e:=72) (fun w=>by kernel_rfl) rfl (fun b=>TL.finA b rfl rfl)⟩) ?_
   refine DA.stepV [q10_0 t x,q10_1 t x,q10_2 t x,q10_3 t x,q10_4 t x,q10_5 t x,q10_6 t x,q10_7 t x,q10_8 t x,q10_9 t x,q10_10 t x,q10_11 t x,q10_12 t x,q10_13 t x,q10_14 t x,q10_15 t x,q10_16 t x,q10_17 t x,q10_18 t x,q10_19 t x,q10_20 t x,q10_21 t x,q10_22 t x,q10_23 t x] (v10_23 t x) [] rfl rfl rfl (fun β=>rfl) (by kernel_rfl) (fun β=>⟨[],trivial,fun ext η=>TL.callV hF of_fn rfl rfl TL.fin⟩) ?_
   refine DA.stepB [q10_0 t x,q10_1 t x,q10_2 t x,q10_3 t x,q10_4 t x,q10_5 t x,q10_6 t x,q10_7 t x,q10_8 t x,q10_9 t x,q10_10 t x,q10_11 t x,q10_12 t x,q10_13 t x,q10_14 t x,q10_15 t x,q10_16 t x,q10_17 t x,q10_18 t x,q10_19 t x,q10_20 t x,q10_21 t x,q10_22 t x,q10_23 t x,q10_24 t x] (v10_24 t x) (f10_24 t x) [24] rfl rfl rfl (fun β=>rfl) (fun β=>rfl) (by kernel_rfl) (fun β=>⟨[(86,_,some 23)],⟨⟨rfl,rfl,_,rfl,rfl⟩,trivial⟩,fun ext η=>TL.buildSlice hF rfl (cs:=(([(.nd 1 0 none 0 []:TE)]:List TE).flatMap teC).toArray) (e:=72) (fun w=>by kernel_rfl) rfl (fun b=>TL.finA b rfl rfl)⟩) ?_
   refine DA.stepV [q10_0 t x,q10_1 t x,q10_2 t x,q10_3 t x,q10_4 t x,q10_5 t x,q10_6 t x,q10_7 t x,q10_8 t x,q10_9 t x,q10_10 t x,q10_11 t x,q10_12 t x,q10_13 t x,q10_14 t x,q10_15 t x,q10_16 t x,q10_17 t x,q10_18 t x,q10_19 t x,q10_20 t x,q10_21 t x,q10_22 t x,q10_23 t x,q10_24 t x,q10_25 t x] (v10_25 t x) [24] rfl rfl rfl (fun β=>rfl) (by kernel_rfl) (fun β=>⟨[(87,_,some 24)],⟨⟨rfl,rfl,_,rfl,rfl⟩,trivial⟩,fun ext η=>TL.callV hF of_fn rfl rfl TL.fin⟩) ?_
   refine DA.stepB [q10_0 t x,q10_1 t x,q10_2 t x,q10_3 t x,q10_4 t x,q10_5 t x,q10_6 t x,q10_7 t x,q10_8 t x,q10_9 t x,q10_10 t x,q10_11 t x,q10_12 t x,q10_13 t x,q10_14 t x,q10_15 t x,q10_16 t x,q10_17 t x,q10_18 t x,q10_19 t x,q10_20 t x,q10_21 t x,q10_22 t x,q10_23 t x,q10_24 t x,q10_25 t x,q10_26 t x] (v10_26 t x) (f10_26 t x) [26,24] rfl rfl rfl (fun β=>rfl) (fun β=>rfl) (by kernel_rfl) (fun β=>⟨[(88,_,some 25)],⟨⟨rfl,rfl,_,rfl,rfl⟩,trivial⟩,fun ext η=>TL.buildSlice hF rfl (cs:=(([(.nd 6 1 (some ⟨β 24,0,none⟩) 1 [(.nd 1 0 none 0 []:TE)]:TE)]:List TE).flatMap teC).toArray) (e:=72) (fun w=>by kernel_rfl) rfl (fun b=>TL.finA b rfl rfl)⟩) ?_
   refine DA.stepV [q10_0 t x,q10_1 t x,q10_2 t x,q10_3 t x,q10_4 t x,q10_5 t x,q10_6 t x,q10_7 t x,q10_8 t x,q10_9 t x,q10_10 t x,q10_11 t x,q10_12 t x,q10_13 t x,q10_14 t x,q10_15 t x,q10_16 t x,q10_17 t x,q10_18 t x,q10_19 t x,q10_20 t x,q10_21 t x,q10_22 t x,q10_23 t x,q10_24 t x,q10_25 t x,q10_26 t x,q10_27 t x] (v10_27 t x) [] rfl rfl rfl (fun β=>rfl) (by kernel_rfl) (fun β=>⟨[(2,_,none)],⟨⟨rfl,by kernel_rfl⟩,trivial⟩,fun ext η=>TL.loadA hF (teC t) rfl rfl ((ht2.up (by simp)).tabA (f:=teC) teC_len (l:=[t]) (i:=0) (by simp)) rfl TL.fin⟩) ?_
   refine DA.stepB [q10_0 t x,q10_1 t x,q10_2 t x,q10_3 t x,q10_4 t x,q10_5 t x,q10_6 t x,q10_7 t x,q10_8 t x,q10_9 t x,q10_10 t x,q10_11 t x,q10_12 t x,q10_13 t x,q10_14 t x,q10_15 t x,q10_16 t x,q10_17 t x,q10_18 t x,q10_19 t x,q10_20 t x,q10_21 t x,q10_22 t x,q10_23 t x,q10_24 t x,q10_25 t x,q10_26 t x,q10_27 t x,q10_28 t x] (v10_28 t x) (f10_28 t x) [28] rfl rfl rfl (fun β=>rfl) (fun β=>rfl) (by kernel_rfl) (fun β=>⟨[(90,_,some 27)],⟨⟨rfl,rfl,_,rfl,rfl⟩,trivial⟩,fun ext η=>TL.buildSlice hF rfl (cs:=(([t]:List TE).flatMap teC).toArray) (e:=72) (fun w=>by kernel_rfl) rfl (fun b=>TL.finA b rfl rfl)⟩) ?_
   refine DA.stepV [q10_0 t x,q10_1 t x,q10_2 t x,q10_3 t x,q10_4 t x,q10_5 t x,q10_6 t x,q10_7 t x,q10_8 t x,q10_9 t x,q10_10 t x,q10_11 t x,q10_12 t x,q10_13 t x,q10_14 t x,q10_15 t x,q10_16 t x,q10_17 t x,q10_18 t x,q10_19 t x,q10_20 t x,q10_21 t x,q10_22 t x,q10_23 t x,q10_24 t x,q10_25 t x,q10_26 t x,q10_27 t x,q10_28 t x,q10_29 t x] (v10_29 t x) [] rfl rfl rfl (fun β=>rfl) (by kernel_rfl) (fun β=>⟨[(1,_,none)],⟨⟨rfl,by kernel_rfl⟩,trivial⟩,fun ext η=>TL.loadA hF (teC x) rfl rfl ((hx2.up (by simp)).tabA (f:=teC) teC_len (l:=[x]) (i:=0) (by simp)) rfl TL.fin⟩) ?_
   refine DA.stepB [q10_0 t x,q10_1 t x,q10_2 t x,q10_3 t x,q10_4 t x,q10_5 t x,q10_6 t x,q10_7 t x,q10_8 t x,q10_9 t x,q10_10 t x,q10_11 t x,q10_12 t x,q10_13 t x,q10_14 t x,q10_15 t x,q10_16 t x,q10_17 t x,q10_18 t x,q10_19 t x,q10_20 t x,q10_21 t x,q10_22 t x,q10_23 t x,q10_24 t x,q10_25 t x,q10_26 t x,q10_27 t x,q10_28 t x,q10_29 t x,q10_30 t x] (v10_30 t x) (f10_30 t x) [30] rfl rfl rfl (fun β=>rfl) (fun β=>rfl) (by kernel_rfl) (fun β=>⟨[(92,_,some 29)],⟨⟨rfl,rfl,_,rfl,rfl⟩,trivial⟩,fun ext η=>TL.buildSlice hF rfl (cs:=(([x]:List TE).flatMap teC).toArray) (e:=72) (fun w=>by kernel_rfl) rfl (fun b=>TL.finA b rfl rfl)⟩) ?_
   refine DA.done (fun β=>[(93,v10_30 t x β),(92,v10_29 t x β),(91,v10_28 t x β),(90,v10_27 t x β),(89,v10_26 t x β),(88,v10_25 t x β),(87,v10_24 t x β),(86,v10_23 t x β),(85,v10_22 t x β),(84,v10_21 t x β),(83,v10_20 t x β),(82,v10_19 t x β),(81,v10_18 t x β),(80,v10_17 t x β),(79,v10_16 t x β),(78,v10_15 t x β),(77,v10_14 t x β),(76,v10_13 t x β),(75,v10_12 t x β),(74,v10_11 t x β),(73,v10_10 t x β),(72,v10_9 t x β),(71,v10_8 t x β),(70,v10_7 t x β),(69,v10_6 t x β),(68,v10_5 t x β),(67,v10_4 t x β),(66,v10_3 t x β),(65,v10_2 t x β),(64,v10_1 t x β),(63,v10_0 t x β)]) [_,_] [0,2,4,6,8,10,12,15,17,20,22,24,26,28,30] (segs10 t x) mixed (by kernel_rfl) (by kernel_rfl) (by kernel_rfl) (fun β=>rfl) rfl (by kernel_rfl) (fun β=>rfl) ?_
   intro β
   refine TL.buildSlice hF rfl (cs:=([.slice none 0 0,.slice (some ⟨β 0,0,none⟩) 9 9,.slice (some ⟨β 2,0,none⟩) 1 1,.slice (some ⟨β 4,0,none⟩) 1 1,.slice (some ⟨β 6,0,none⟩) 1 1,.slice (some ⟨β 10,0,none⟩) 1 1,.slice (some ⟨β 12,0,none⟩) 1 1,.slice (some ⟨β 17,0,none⟩) 1 1,.slice (some ⟨β 22,0,none⟩) 1 1,.slice (some ⟨β 26,0,none⟩) 1 1,.slice (some ⟨β 28,0,none⟩) 1 1,.slice (some ⟨β 30,0,none⟩) 1 1]:List Value).toArray) (e:=23) (fun w=>by kernel_rfl) rfl (fun b94=>?_)
   refine TL.assign hF rfl rfl ?_
   refine TL.nil ?_
   refine TQ.then_n ?_
   refine T.seq ?_
   refine T.seq ?_
   refine T.region ?_
   refine TL.assign hF rfl rfl ?_
   refine TL.nil ?_
   refine TQ.then_n ?_
   refine T.block ?_
   have hbr:Row S1 w1 ([(b94,Obj.cells ([.slice none 0 0,.slice (some ⟨β 0,0,none⟩) 9 9,.slice (some ⟨β 2,0,none⟩) 1 1,.slice (some ⟨β 4,0,none⟩) 1 1,.slice (some ⟨β 6,0,none⟩) 1 1,.slice (some ⟨β 10,0,none⟩) 1 1,.slice (some ⟨β 12,0,none⟩) 1 1,.slice (some ⟨β 17,0,none⟩) 1 1,.slice (some ⟨β 22,0,none⟩) 1 1,.slice (some ⟨β 26,0,none⟩) 1 1,.slice (some ⟨β 28,0,none⟩) 1 1,.slice (some ⟨β 30,0,none⟩) 1 1]:List Value).toArray 23 (0,0))]::segs10 t x β) (some ⟨b94,0,none⟩) ((bads10 t x β).map hdrB):=bads_row List.mem_cons_self
   have hbf:∀ b∈bads10 t x β,Fs S1 w1 ([(b94,Obj.cells ([.slice none 0 0,.slice (some ⟨β 0,0,none⟩) 9 9,.slice (some ⟨β 2,0,none⟩) 1 1,.slice (some ⟨β 4,0,none⟩) 1 1,.slice (some ⟨β 6,0,none⟩) 1 1,.slice (some ⟨β 10,0,none⟩) 1 1,.slice (some ⟨β 12,0,none⟩) 1 1,.slice (some ⟨β 17,0,none⟩) 1 1,.slice (some ⟨β 22,0,none⟩) 1 1,.slice (some ⟨β 26,0,none⟩) 1 1,.slice (some ⟨β 28,0,none⟩) 1 1,.slice (some ⟨β 30,0,none⟩) 1 1]:List Value).toArray 23 (0,0))]::segs10 t x β) b.a b.l:=bads_fs (fun _ hs=>List.mem_cons_of_mem _ hs) (htr2.up (fun _ h=>absurd h List.not_mem_nil)) (hxr2.up (fun _ h=>absurd h List.not_mem_nil))
   refine T.freeze ([(b94,Obj.cells ([.slice none 0 0,.slice (some ⟨β 0,0,none⟩) 9 9,.slice (some ⟨β 2,0,none⟩) 1 1,.slice (some ⟨β 4,0,none⟩) 1 1,.slice (some ⟨β 6,0,none⟩) 1 1,.slice (some ⟨β 10,0,none⟩) 1 1,.slice (some ⟨β 12,0,none⟩) 1 1,.slice (some ⟨β 17,0,none⟩) 1 1,.slice (some ⟨β 22,0,none⟩) 1 1,.slice (some ⟨β 26,0,none⟩) 1 1,.slice (some ⟨β 28,0,none⟩) 1 1,.slice (some ⟨β 30,0,none⟩) 1 1]:List Value).toArray 23 (0,0))]::segs10 t x β) rfl (fun S2 w2 hz2=>?_)
   replace hb:=hb.frz hz2
   replace hT:=hT.old hz2
   replace htr2:=htr2.old hz2
   replace hxr2:=hxr2.old hz2
   replace ht2:=ht2.old hz2
   replace hx2:=hx2.old hz2
   replace hbr:=hbr.frz hz2
   replace hbf:=fun b hb'=>(hbf b hb').frz hz2
   have hbx:=bads_ex (β:=β) hte hxe
   have hbl:=bads_len t x β
   have hbs:=bads_small t x β
   have hbc:∀ b∈bads10 t x β,checkS (b.l.map TE.ex)=1:=fun b hb'=>by
    have h9:=List.all_eq_true.1 bad_ok _ (by rw [← hbx]; exact List.mem_map_of_mem hb')
    exact of_decide_eq_true h9
   obtain ⟨bds,hbds⟩:∃ bds,bads10 t x β=bds:=⟨_,rfl⟩
   rw [hbds] at hbr hbf hbl hbc hbs
   clear hbx hbds
   refine T.loop (ι:=Nat) (fun i=>i≤12) (fun i=>[(0,.bool false),(5,.slice (some ⟨b94,0,none⟩) 12 12),(6,.int .i64 (i:Int))]) (fun _=>η) (fun i=>12 - i) 0 (Nat.zero_le _) ⟨rfl,rfl,rfl,trivial⟩ rfl ?_
   rintro k hk
   refine T.seq ?_
   refine T.seq ?_
   refine T.region ?_
   refine TL.move hF rfl rfl ?_
   refine TL.move hF rfl rfl ?_
   refine TL.len hF rfl rfl ?_
   refine TL.bin hF rfl rfl rfl rfl ?_
   refine TL.nil ?_
   refine TQ.then_n ?_
   first | refine T.cond_d rfl (fun ht98=>?_) (fun ht98=>?_) | refine T.cond _ rfl (fun ht98=>?_) (fun ht98=>?_)
   ·refine T.skip ?_
    refine TQ.then_n ?_
    refine T.seq ?_
    refine T.block ?_
    refine T.seq ?_
    have hkl:k<bds.length:=by have h:(k:Int)<((12:Nat):Int):=ht98; omega
    have hbk:=hbf _ (List.getElem_mem hkl)
    have hck:=hbc _ (List.getElem_mem hkl)
    have hsk:=hbs _ (List.getElem_mem hkl)
    refine T.drawH 10 mixed ?_
    refine DH.pure (i:=0) [(5,_,none)] rfl rfl rfl rfl ⟨⟨rfl,by kernel_rfl⟩,trivial⟩ (fun _ ext=>TL.move hF rfl rfl TL.fin) ?_
    refine DH.pure (i:=1) [(6,_,none)] rfl rfl rfl rfl ⟨⟨rfl,by kernel_rfl⟩,trivial⟩ (fun _ ext=>TL.move hF rfl rfl TL.fin) ?_
    refine DH.pure (i:=2) [(102,_,some 0),(103,_,some 1)] rfl rfl rfl rfl ⟨⟨rfl,rfl,rfl⟩,⟨rfl,rfl,rfl⟩,trivial⟩ (fun _ ext=>TL.indexAddr hF rfl rfl (bl_ad hbr hkl) (by omega) (by omega) rfl TL.fin) ?_
    refine DH.read (i:=3) [(104,_,some 2)] rfl rfl rfl rfl ⟨⟨rfl,rfl,rfl⟩,trivial⟩ (fun ext=>TL.load hF rfl (bl_at (hbr.up (fun _ h=>absurd h List.not_mem_nil)) hkl) rfl TL.fin) ?_
    refine DH.pure (i:=4) [] rfl rfl rfl rfl trivial (fun _ ext=>TL.callV hF (at_fn 9 9) rfl rfl TL.fin) ?_
    refine DH.heavy 5 [(105,_,some 3),(106,_,some 4)] (by kernel_rfl) (by kernel_rfl) (by kernel_rfl) (by kernel_rfl) rfl rfl rfl rfl ⟨⟨rfl,rfl,rfl⟩,⟨rfl,rfl,rfl⟩,trivial⟩ (by kernel_rfl) (fun ext=>?_)
    refine TL.call hF (Run_own [] (cells:=[]) (cc:=0) (k:=0) (top:=(9,9)) hT hbk hsk Row.none rfl (by decide) (bad_run hck _ _)) rfl rfl ?_
    rintro _ _ ⟨a1,c1,segs1,rfl,rfl⟩
    refine TL.finD ?_
    refine DH.pure (i:=6) [(107,_,some 5)] rfl rfl rfl rfl ⟨⟨rfl,rfl,rfl⟩,trivial⟩ (fun _ ext=>TL.move hF rfl rfl TL.fin) ?_
    refine DH.pure (i:=7) [(101,_,some 6)] rfl rfl rfl rfl ⟨⟨rfl,rfl,rfl⟩,trivial⟩ (fun _ ext=>TL.extract hF rfl rfl rfl TL.fin) ?_
    refine DH.pure (i:=8) [(101,_,some 6)] rfl rfl rfl rfl ⟨⟨rfl,rfl,rfl⟩,trivial⟩ (fun _ ext=>TL.extract hF rfl rfl rfl TL.fin) ?_
    refine DH.pure (i:=9) [(108,_,some 7)] rfl rfl rfl rfl ⟨⟨rfl,rfl,rfl⟩,trivial⟩ (fun _ ext=>TL.assign hF rfl rfl TL.fin) ?_
    refine DH.done [(7,_),(109,_),(108,_),(101,_),(107,_),(106,_),(105,_),(104,_),(103,_),(102,_)] [_] (by kernel_rfl) (by kernel_rfl) (by kernel_rfl) (by kernel_rfl) rfl rfl ?_
    refine TL.assign hF rfl rfl ?_
    refine TL.nil ?_
    refine TQ.then_n ?_
    refine T.seq ?_
    refine T.hsub η (List.sublist_append_right _ _) ?_
    refine T.drawH 11 mixed ?_
    refine DH.pure (i:=0) [(5,_,none)] rfl rfl rfl rfl ⟨⟨rfl,by kernel_rfl⟩,trivial⟩ (fun _ ext=>TL.move hF rfl rfl TL.fin) ?_
    refine DH.pure (i:=1) [(6,_,none)] rfl rfl rfl rfl ⟨⟨rfl,by kernel_rfl⟩,trivial⟩ (fun _ ext=>TL.move hF rfl rfl TL.fin) ?_
    refine DH.pure (i:=2) [(111,_,some 0),(112,_,some 1)] rfl rfl rfl rfl ⟨⟨rfl,rfl,rfl⟩,⟨rfl,rfl,rfl⟩,trivial⟩ (fun _ ext=>TL.indexAddr hF rfl rfl (bl_ad hbr hkl) (by omega) (by omega) rfl TL.fin) ?_
    refine DH.read (i:=3) [(113,_,some 2)] rfl rfl rfl rfl ⟨⟨rfl,rfl,rfl⟩,trivial⟩ (fun ext=>TL.load hF rfl (bl_at (hbr.up (fun _ h=>absurd h List.not_mem_nil)) hkl) rfl TL.fin) ?_
    refine DH.pure (i:=4) [] rfl rfl rfl rfl trivial (fun _ ext=>TL.callV hF (at_fn 9 9) rfl rfl TL.fin) ?_
    refine DH.k1 (by kernel_rfl) (by kernel_rfl) (by kernel_rfl) (by kernel_rfl) (HBK.mk (h:=5) [3] [] rfl rfl rfl trivial (by kernel_rfl) (fun ext=>?_))
    refine TL.makeSlice hF (k:=31) rfl rfl rfl (by decide) (by decide) rfl (fun b116=>?_)
    refine TL.finK ⟨⟨_,rfl,_,_,[(113,_,some 2)],rfl,rfl,⟨⟨rfl,rfl,rfl⟩,trivial⟩,fun ext=>TL.load hF rfl (bl_at (hbr.up (fun _ h=>absurd h List.not_mem_nil)) hkl) rfl TL.fin⟩,trivial⟩ ?_
    refine DH.heavy 6 [(114,_,some 3),(115,_,some 4),(116,_,some 5)] (by kernel_rfl) (by kernel_rfl) (by kernel_rfl) (by kernel_rfl) rfl rfl rfl rfl ⟨⟨rfl,rfl,rfl⟩,⟨rfl,rfl,rfl⟩,⟨rfl,rfl,rfl⟩,trivial⟩ (by kernel_rfl) (fun ext=>?_)
    refine TL.call hF (Play_own [_] (cells:=[]) (cc:=0) (k:=0) (m:=31) (ps:=zeroEd 31) (top:=(9,9)) hT hbk hsk Row.none rfl (by decide) (zeroEd_gl (b:=b116) List.mem_cons_self) (zeroEd_len 31) (by decide) (zeroEd_small 31) (bad_play hck _ _ _)) rfl rfl ?_
    rintro _ _ ⟨a2,c2,segs2,rfl,rfl⟩
    refine TL.finD ?_
    refine DH.pure (i:=7) [(117,_,some 6)] rfl rfl rfl rfl ⟨⟨rfl,rfl,rfl⟩,trivial⟩ (fun _ ext=>TL.move hF rfl rfl TL.fin) ?_
    refine DH.pure (i:=8) [(110,_,some 7)] rfl rfl rfl rfl ⟨⟨rfl,rfl,rfl⟩,trivial⟩ (fun _ ext=>TL.extract hF rfl rfl rfl TL.fin) ?_
    refine DH.pure (i:=9) [(110,_,some 7)] rfl rfl rfl rfl ⟨⟨rfl,rfl,rfl⟩,trivial⟩ (fun _ ext=>TL.extract hF rfl rfl rfl TL.fin) ?_
    refine DH.pure (i:=10) [(118,_,some 8)] rfl rfl rfl rfl ⟨⟨rfl,rfl,rfl⟩,trivial⟩ (fun _ ext=>TL.assign hF rfl rfl TL.fin) ?_
    refine DH.done [(9,_),(119,_),(118,_),(110,_),(117,_),(116,_),(115,_),(114,_),(113,_),(112,_),(111,_)] [_] (by kernel_rfl) (by kernel_rfl) (by kernel_rfl) (by kernel_rfl) rfl rfl ?_
    refine TL.assign hF rfl rfl ?_
    refine TL.nil ?_
    refine TQ.then_n ?_
    refine T.seq ?_
    refine T.hsub η (List.sublist_append_right _ _) ?_
    refine T.drawH 10 mixed ?_
    refine DH.pure (i:=0) [(5,_,none)] rfl rfl rfl rfl ⟨⟨rfl,by kernel_rfl⟩,trivial⟩ (fun _ ext=>TL.move hF rfl rfl TL.fin) ?_
    refine DH.pure (i:=1) [(6,_,none)] rfl rfl rfl rfl ⟨⟨rfl,by kernel_rfl⟩,trivial⟩ (fun _ ext=>TL.move hF rfl rfl TL.fin) ?_
    refine DH.pure (i:=2) [(121,_,some 0),(122,_,some 1)] rfl rfl rfl rfl ⟨⟨rfl,rfl,rfl⟩,⟨rfl,rfl,rfl⟩,trivial⟩ (fun _ ext=>TL.indexAddr hF rfl rfl (bl_ad hbr hkl) (by omega) (by omega) rfl TL.fin) ?_
    refine DH.read (i:=3) [(123,_,some 2)] rfl rfl rfl rfl ⟨⟨rfl,rfl,rfl⟩,trivial⟩ (fun ext=>TL.load hF rfl (bl_at (hbr.up (fun _ h=>absurd h List.not_mem_nil)) hkl) rfl TL.fin) ?_
    refine DH.pure (i:=4) [] rfl rfl rfl rfl trivial (fun _ ext=>TL.callV hF (at_fn 9 9) rfl rfl TL.fin) ?_
    refine DH.heavy 5 [(124,_,some 3),(125,_,some 4)] (by kernel_rfl) (by kernel_rfl) (by kernel_rfl) (by kernel_rfl) rfl rfl rfl rfl ⟨⟨rfl,rfl,rfl⟩,⟨rfl,rfl,rfl⟩,trivial⟩ (by kernel_rfl) (fun ext=>?_)
    refine TL.call hF (Distance_own [] (cells:=[]) (others:=[]) (cc:=0) (dc:=0) (k:=0) (m:=0) (top:=(9,9)) hT hbk hsk Row.none rfl (by decide) Row.none rfl (by decide) (bad_dist hck _ _ _)) rfl rfl ?_
    rintro _ _ ⟨rfl,segs3,rfl⟩
    refine TL.finD ?_
    refine DH.pure (i:=6) [(126,_,some 5)] rfl rfl rfl rfl ⟨⟨rfl,rfl,rfl⟩,trivial⟩ (fun _ ext=>TL.move hF rfl rfl TL.fin) ?_
    refine DH.pure (i:=7) [(120,_,some 6)] rfl rfl rfl rfl ⟨⟨rfl,rfl,rfl⟩,trivial⟩ (fun _ ext=>TL.extract hF rfl rfl rfl TL.fin) ?_
    refine DH.pure (i:=8) [(120,_,some 6)] rfl rfl rfl rfl ⟨⟨rfl,rfl,rfl⟩,trivial⟩ (fun _ ext=>TL.extract hF rfl rfl rfl TL.fin) ?_
    refine DH.pure (i:=9) [(127,_,some 7)] rfl rfl rfl rfl ⟨⟨rfl,rfl,rfl⟩,trivial⟩ (fun _ ext=>TL.assign hF rfl rfl TL.fin) ?_
    refine DH.done [(11,_),(128,_),(127,_),(120,_),(126,_),(125,_),(124,_),(123,_),(122,_),(121,_)] [_] (by kernel_rfl) (by kernel_rfl) (by kernel_rfl) (by kernel_rfl) rfl rfl ?_
    refine TL.assign hF rfl rfl ?_
    refine TL.nil ?_
    refine TQ.then_n ?_
    refine T.seq ?_
    refine T.hsub η (List.sublist_append_right _ _) ?_
    refine T.drawH 10 mixed ?_
    refine DH.pure (i:=0) [(5,_,none)] rfl rfl rfl rfl ⟨⟨rfl,by kernel_rfl⟩,trivial⟩ (fun _ ext=>TL.move hF rfl rfl TL.fin) ?_
    refine DH.pure (i:=1) [(6,_,none)] rfl rfl rfl rfl ⟨⟨rfl,by kernel_rfl⟩,trivial⟩ (fun _ ext=>TL.move hF rfl rfl TL.fin) ?_
    refine DH.pure (i:=2) [(130,_,some 0),(131,_,some 1)] rfl rfl rfl rfl ⟨⟨rfl,rfl,rfl⟩,⟨rfl,rfl,rfl⟩,trivial⟩ (fun _ ext=>TL.indexAddr hF rfl rfl (bl_ad hbr hkl) (by omega) (by omega) rfl TL.fin) ?_
    refine DH.read (i:=3) [(132,_,some 2)] rfl rfl rfl rfl ⟨⟨rfl,rfl,rfl⟩,trivial⟩ (fun ext=>TL.load hF rfl (bl_at (hbr.up (fun _ h=>absurd h List.not_mem_nil)) hkl) rfl TL.fin) ?_
    refine DH.pure (i:=4) [] rfl rfl rfl rfl trivial (fun _ ext=>TL.callV hF (at_fn 9 9) rfl rfl TL.fin) ?_
    refine DH.heavy 5 [(133,_,some 3),(134,_,some 4)] (by kernel_rfl) (by kernel_rfl) (by kernel_rfl) (by kernel_rfl) rfl rfl rfl rfl ⟨⟨rfl,rfl,rfl⟩,⟨rfl,rfl,rfl⟩,trivial⟩ (by kernel_rfl) (fun ext=>?_)
    refine TL.call hF (Needs_own [] (cells:=[]) (cc:=0) (k:=0) (top:=(9,9)) hT hbk hsk Row.none rfl (by decide) (bad_needs hck _ _)) rfl rfl ?_
    rintro _ _ ⟨a4,c4,segs4,rfl,rfl⟩
    refine TL.finD ?_
    refine DH.pure (i:=6) [(135,_,some 5)] rfl rfl rfl rfl ⟨⟨rfl,rfl,rfl⟩,trivial⟩ (fun _ ext=>TL.move hF rfl rfl TL.fin) ?_
    refine DH.pure (i:=7) [(129,_,some 6)] rfl rfl rfl rfl ⟨⟨rfl,rfl,rfl⟩,trivial⟩ (fun _ ext=>TL.extract hF rfl rfl rfl TL.fin) ?_
    refine DH.pure (i:=8) [(129,_,some 6)] rfl rfl rfl rfl ⟨⟨rfl,rfl,rfl⟩,trivial⟩ (fun _ ext=>TL.extract hF rfl rfl rfl TL.fin) ?_
    refine DH.pure (i:=9) [(136,_,some 7)] rfl rfl rfl rfl ⟨⟨rfl,rfl,rfl⟩,trivial⟩ (fun _ ext=>TL.assign hF rfl rfl TL.fin) ?_
    refine DH.done [(13,_),(137,_),(136,_),(129,_),(135,_),(134,_),(133,_),(132,_),(131,_),(130,_)] [_] (by kernel_rfl) (by kernel_rfl) (by kernel_rfl) (by kernel_rfl) rfl rfl ?_
    refine TL.assign hF rfl rfl ?_
    refine TL.nil ?_
    refine TQ.then_n ?_
    refine T.seq ?_
    refine T.region ?_
    refine TL.hsub η (List.sublist_append_right _ _) ?_
    refine TL.move hF rfl rfl ?_
    refine TL.move hF rfl rfl ?_
    refine TL.indexAddr hF rfl rfl (bl_ad hbr hkl) (by omega) (by omega) rfl ?_
    refine TL.load hF rfl (bl_at (hbr.up (fun _ h=>absurd h List.not_mem_nil)) hkl) rfl ?_
    have hcf:=Check_fn (c:=bds[k].l.length) (η:=η) hT hbk hsk
    rw [hck] at hcf
    refine TL.callV hF hcf rfl rfl ?_
    refine TL.bin hF rfl rfl rfl rfl ?_
    refine TL.move hF rfl rfl ?_
    refine TL.on rfl rfl rfl (by decide) ?_
    refine TL.move hF rfl rfl ?_
    refine TL.on rfl rfl rfl (by decide) ?_
    refine TL.bin hF rfl rfl rfl rfl ?_
    refine TL.pickF hF rfl (by decide) rfl rfl ?_
    refine TL.move hF rfl rfl ?_
    refine TL.on rfl rfl rfl (by decide) ?_
    refine TL.move hF rfl rfl ?_
    refine TL.on rfl rfl rfl (by decide) ?_
    refine TL.bin hF rfl rfl rfl rfl ?_
    refine TL.pickF hF rfl (by decide) rfl rfl ?_
    refine TL.move hF rfl rfl ?_
    refine TL.on rfl rfl rfl (by decide) ?_
    refine TL.move hF rfl rfl ?_
    refine TL.on rfl rfl rfl (by decide) ?_
    refine TL.bin hF rfl rfl rfl rfl ?_
    refine TL.pickF hF rfl (by decide) rfl rfl ?_
    refine TL.move hF rfl rfl ?_
    refine TL.on rfl rfl rfl (by decide) ?_
    refine TL.move hF rfl rfl ?_
    refine TL.on rfl rfl rfl (by decide) ?_
    refine TL.bin hF rfl rfl rfl rfl ?_
    refine TL.pickF hF rfl (by decide) rfl rfl ?_
    refine TL.nil ?_
    refine TQ.then_n ?_
    refine T.cond_f rfl (by decide) ?_
    refine T.skip ?_
    refine TQ.block_n ?_
    refine TQ.then_n ?_
    refine T.region ?_
    refine TL.move hF rfl rfl ?_
    refine TL.add hF rfl rfl (by first | omega | (dsimp only; omega)) (by first | omega | (dsimp only; omega)) rfl ?_
    refine TL.assign hF rfl rfl ?_
    refine TL.nil ?_
    exact TQ.round (k+1) (by omega) (by omega) ⟨rfl,rfl,rfl,trivial⟩ rfl
   ·refine T.exit ?_
    refine TQ.then_x ?_
    refine TQ.then_x ?_
    refine TQ.block_x ?_
    refine TQ.then_n ?_
    refine T.seq ?_
    refine T.region ?_
    refine TL.call hF functions_fn rfl rfl ?_
    rintro _ _ ⟨fa,fc,fl,segs,rfl,hfs,hfx,rfl⟩
    have hfl:fl.length<9223372036854775808:=by have:=congrArg List.length hfx; rw [List.length_map] at this; rw [this]; decide
    refine TL.freeze (segs) rfl (fun S3 w3 hz3=>?_)
    replace hb:=hb.frz hz3
    replace hT:=hT.old hz3
    replace htr2:=htr2.old hz3
    replace hxr2:=hxr2.old hz3
    replace ht2:=ht2.old hz3
    replace hx2:=hx2.old hz3
    replace hfs:=hfs.frz hz3
    refine TL.assign hF rfl rfl ?_
    refine TL.nil ?_
    refine TQ.then_n ?_
    refine T.seq ?_
    refine T.region ?_
    refine TL.move hF rfl rfl ?_
    refine TL.callV hF (at_fn 0 0) rfl rfl ?_
    refine TL.call hF (Run_own [] (cells:=[]) (cc:=0) (k:=0) (top:=(0,0)) hT hfs hfl Row.none (by rfl) (by decide) (by rw [hfx]; exact kn1)) rfl rfl ?_
    rintro _ _ ⟨a21,c21,segs21,rfl,rfl⟩
    refine TL.hsub η (List.sublist_append_right _ _) ?_
    refine TL.move hF rfl rfl ?_
    refine TL.extract hF rfl rfl rfl ?_
    refine TL.extract hF rfl rfl rfl ?_
    refine TL.assign hF rfl rfl ?_
    refine TL.assign hF rfl rfl ?_
    refine TL.nil ?_
    refine TQ.then_n ?_
    refine T.seq ?_
    refine T.drawH 8 mixed ?_
    refine DH.pure (i:=0) [(15,_,none)] rfl rfl rfl rfl ⟨⟨rfl,by kernel_rfl⟩,trivial⟩ (fun _ ext=>TL.move hF rfl rfl TL.fin) ?_
    refine DH.pure (i:=2) [] rfl rfl rfl rfl trivial (fun _ ext=>TL.callV hF (at_fn 0 0) rfl rfl TL.fin) ?_
    refine DH.heavy 1 [] (by kernel_rfl) (by kernel_rfl) (by kernel_rfl) (by kernel_rfl) rfl rfl rfl rfl trivial (by kernel_rfl) (fun ext=>?_)
    refine TL.makeSlice hF (k:=101) rfl rfl rfl (by decide) (by decide) rfl (fun b169=>?_)
    refine TL.finD ?_
    refine DH.heavy 3 [(168,_,some 0),(169,_,some 1),(170,_,some 2)] (by kernel_rfl) (by kernel_rfl) (by kernel_rfl) (by kernel_rfl) rfl rfl rfl rfl ⟨⟨rfl,rfl,rfl⟩,⟨rfl,rfl,rfl⟩,⟨rfl,rfl,rfl⟩,trivial⟩ (by kernel_rfl) (fun ext=>?_)
    refine TL.call hF (Run_own [_] (cells:=List.replicate 101 0) (cc:=101) (k:=101) (top:=(0,0)) hT hfs hfl (by rw [zero_ints]; exact row_own (cs:=List.replicate 101 (.int .i64 0)) (e:=3) (b:=b169) List.mem_cons_self) List.length_replicate (by decide) (by rw [hfx]; exact kn2)) rfl rfl ?_
    rintro _ _ ⟨a22,c22,segs22,rfl,rfl⟩
    refine TL.finD ?_
    refine DH.pure (i:=4) [(171,_,some 3)] rfl rfl rfl rfl ⟨⟨rfl,rfl,rfl⟩,trivial⟩ (fun _ ext=>TL.move hF rfl rfl TL.fin) ?_
    refine DH.pure (i:=5) [(167,_,some 4)] rfl rfl rfl rfl ⟨⟨rfl,rfl,rfl⟩,trivial⟩ (fun _ ext=>TL.extract hF rfl rfl rfl TL.fin) ?_
    refine DH.pure (i:=6) [(167,_,some 4)] rfl rfl rfl rfl ⟨⟨rfl,rfl,rfl⟩,trivial⟩ (fun _ ext=>TL.extract hF rfl rfl rfl TL.fin) ?_
    refine DH.pure (i:=7) [(172,_,some 5)] rfl rfl rfl rfl ⟨⟨rfl,rfl,rfl⟩,trivial⟩ (fun _ ext=>TL.assign hF rfl rfl TL.fin) ?_
    refine DH.done [(18,_),(173,_),(172,_),(167,_),(171,_),(169,_),(170,_),(168,_)] [_] (by kernel_rfl) (by kernel_rfl) (by kernel_rfl) (by kernel_rfl) rfl rfl ?_
    refine TL.assign hF rfl rfl ?_
    refine TL.nil ?_
    refine TQ.then_n ?_
    refine T.seq ?_
    refine T.region ?_
    refine TL.hsub η (List.sublist_append_right _ _) ?_
    refine TL.move hF rfl rfl ?_
    refine TL.buildSlice hF rfl (cs:=#[.int .i64 2147483648]) (e:=3) (fun w=>by kernel_rfl) rfl (fun b176=>?_)
    refine TL.callV hF (at_fn 0 0) rfl rfl ?_
    refine TL.call hF (Run_own [_] (cells:=[2147483648]) (cc:=1) (k:=1) (top:=(0,0)) hT hfs hfl (row_own (cs:=ints [2147483648]) (e:=3) (b:=b176) (by simp [ints])) (by rfl) (by decide) (by rw [hfx]; exact kn3)) rfl rfl ?_
    rintro _ _ ⟨a23,c23,segs23,rfl,rfl⟩
    refine TL.hsub η (List.sublist_append_right _ _) ?_
    refine TL.move hF rfl rfl ?_
    refine TL.extract hF rfl rfl rfl ?_
    refine TL.extract hF rfl rfl rfl ?_
    refine TL.assign hF rfl rfl ?_
    refine TL.assign hF rfl rfl ?_
    refine TL.nil ?_
    refine TQ.then_n ?_
    refine T.seq ?_
    refine T.region ?_
    refine TL.move hF rfl rfl ?_
    refine TL.buildSlice hF rfl (cs:=#[.int .i64 1]) (e:=3) (fun w=>by kernel_rfl) rfl (fun b183=>?_)
    refine TL.callV hF (at_fn 2 0) rfl rfl ?_
    refine TL.call hF (Run_own [_] (cells:=[1]) (cc:=1) (k:=1) (top:=(2,0)) hT hfs hfl (row_own (cs:=ints [1]) (e:=3) (b:=b183) (by simp [ints])) (by rfl) (by decide) (by rw [hfx]; exact kn4)) rfl rfl ?_
    rintro _ _ ⟨a24,c24,segs24,rfl,rfl⟩
    refine TL.hsub η (List.sublist_append_right _ _) ?_
    refine TL.move hF rfl rfl ?_
    refine TL.extract hF rfl rfl rfl ?_
    refine TL.extract hF rfl rfl rfl ?_
    refine TL.assign hF rfl rfl ?_
    refine TL.assign hF rfl rfl ?_
    refine TL.nil ?_
    refine TQ.then_n ?_
    refine T.seq ?_
    refine T.region ?_
    refine TL.move hF rfl rfl ?_
    refine TL.buildSlice hF rfl (cs:=#[.int .i64 1]) (e:=3) (fun w=>by kernel_rfl) rfl (fun b190=>?_)
    refine TL.callV hF (at_fn 0 201) rfl rfl ?_
    refine TL.call hF (Run_own [_] (cells:=[1]) (cc:=1) (k:=1) (top:=(0,201)) hT hfs hfl (row_own (cs:=ints [1]) (e:=3) (b:=b190) (by simp [ints])) (by rfl) (by decide) (by rw [hfx]; exact kn5)) rfl rfl ?_
    rintro _ _ ⟨a25,c25,segs25,rfl,rfl⟩
    refine TL.hsub η (List.sublist_append_right _ _) ?_
    refine TL.move hF rfl rfl ?_
    refine TL.extract hF rfl rfl rfl ?_
    refine TL.extract hF rfl rfl rfl ?_
    refine TL.assign hF rfl rfl ?_
    refine TL.assign hF rfl rfl ?_
    refine TL.nil ?_
    refine TQ.then_n ?_
    refine T.seq ?_
    refine T.region ?_
    refine TL.move hF rfl rfl ?_
    refine TL.buildSlice hF rfl (cs:=#[.int .i64 1]) (e:=3) (fun w=>by kernel_rfl) rfl (fun b197=>?_)
    refine TL.callV hF (at_fn 0 (-1)) rfl rfl ?_
    refine TL.call hF (Needs_own [_] (cells:=[1]) (cc:=1) (k:=1) (top:=(0,-1)) hT hfs hfl (row_own (cs:=ints [1]) (e:=3) (b:=b197) (by simp [ints])) (by rfl) (by decide) (by rw [hfx]; exact kn6)) rfl rfl ?_
    rintro _ _ ⟨a26,c26,segs26,rfl,rfl⟩
    refine TL.hsub η (List.sublist_append_right _ _) ?_
    refine TL.move hF rfl rfl ?_
    refine TL.extract hF rfl rfl rfl ?_
    refine TL.extract hF rfl rfl rfl ?_
    refine TL.assign hF rfl rfl ?_
    refine TL.assign hF rfl rfl ?_
    refine TL.nil ?_
    refine TQ.then_n ?_
    refine T.seq ?_
    refine T.region ?_
    refine TL.move hF rfl rfl ?_
    refine TL.buildSlice hF rfl (cs:=#[.int .i64 1]) (e:=3) (fun w=>by kernel_rfl) rfl (fun b204=>?_)
    refine TL.buildSlice hF rfl (cs:=#[.int .i64 1,.int .i64 2]) (e:=3) (fun w=>by kernel_rfl) rfl (fun b205=>?_)
    refine TL.callV hF (at_fn 0 1) rfl rfl ?_
    refine TL.call hF (Distance_own [_,_] (cells:=[1]) (others:=[1,2]) (cc:=1) (dc:=2) (k:=1) (m:=2) (top:=(0,1)) hT hfs hfl (row_own (cs:=ints [1]) (e:=3) (b:=b204) (by simp [ints])) (by rfl) (by decide) (row_own (cs:=ints [1,2]) (e:=3) (b:=b205) (by simp [ints])) (by rfl) (by decide) (by rw [hfx]; exact kn7)) rfl rfl ?_
    rintro _ _ ⟨rfl,segs27,rfl⟩
    refine TL.hsub η (List.sublist_append_right _ _) ?_
    refine TL.move hF rfl rfl ?_
    refine TL.extract hF rfl rfl rfl ?_
    refine TL.extract hF rfl rfl rfl ?_
    refine TL.assign hF rfl rfl ?_
    refine TL.assign hF rfl rfl ?_
    refine TL.nil ?_
    refine TQ.then_n ?_
    refine T.cut (ι:=Unit) (fun _=>True) (fun _=>[(0,.bool false),(15,.slice fa fl.length fc),(17,.int .i64 2),(19,.int .i64 2),(21,.int .i64 2),(23,.int .i64 2),(25,.int .i64 2),(27,.int .i64 2),(29,.int .i64 2),(31,.int .i64 3)]) (fun _=>η) ?_ ?_
    ·refine T.drawH 9 mixed ?_
     refine DH.pure (i:=0) [(15,_,none)] rfl rfl rfl rfl ⟨⟨rfl,by kernel_rfl⟩,trivial⟩ (fun _ ext=>TL.move hF rfl rfl TL.fin) ?_
     refine DH.pure (i:=2) [] rfl rfl rfl rfl trivial (fun _ ext=>TL.callV hF (at_fn 0 1) rfl rfl TL.fin) ?_
     refine DH.heavy2 (h1:=1) (h2:=3) (by kernel_rfl) (by kernel_rfl) (by kernel_rfl) (by kernel_rfl) ⟨_,_,[],rfl,rfl,rfl,rfl,trivial,by kernel_rfl,fun ext=>?_⟩ ⟨_,_,[],rfl,rfl,rfl,rfl,trivial,by kernel_rfl,fun ext=>?_⟩
     ·refine TL.buildSlice hF rfl (cs:=#[.int .i64 1]) (e:=3) (fun w=>by kernel_rfl) rfl (fun b212=>?_)
      refine TL.finD ?_
      refine DH.heavy 3 [] (by kernel_rfl) (by kernel_rfl) (by kernel_rfl) (by kernel_rfl) rfl rfl rfl rfl trivial (by kernel_rfl) (fun ext=>?_)
      refine TL.makeSlice hF (k:=31) rfl rfl rfl (by decide) (by decide) rfl (fun b214=>?_)
      refine TL.finD ?_
      refine DH.heavy 4 [(211,_,some 0),(212,_,some 1),(213,_,some 2),(214,_,some 3)] (by kernel_rfl) (by kernel_rfl) (by kernel_rfl) (by kernel_rfl) rfl rfl rfl rfl ⟨⟨rfl,rfl,rfl⟩,⟨rfl,rfl,rfl⟩,⟨rfl,rfl,rfl⟩,⟨rfl,rfl,rfl⟩,trivial⟩ (by kernel_rfl) (fun ext=>?_)
      refine TL.call hF (Play_own [_,_] (cells:=[1]) (cc:=1) (k:=1) (m:=31) (ps:=zeroEd 31) (top:=(0,1)) hT hfs hfl (row_own (cs:=ints [1]) (e:=3) (b:=b212) (mem2 (by first | exact .inl rfl | exact .inr rfl))) (by rfl) (by decide) (zeroEd_gl (b:=b214) (mem2 (by first | exact .inl rfl | exact .inr rfl))) (zeroEd_len 31) (by decide) (zeroEd_small 31) (by rw [hfx,zeroEd_rounds]; exact kn8)) rfl rfl ?_
      rintro _ _ ⟨a28,c28,segs28,rfl,rfl⟩
      refine TL.finD ?_
      refine DH.pure (i:=5) [(215,_,some 4)] rfl rfl rfl rfl ⟨⟨rfl,rfl,rfl⟩,trivial⟩ (fun _ ext=>TL.move hF rfl rfl TL.fin) ?_
      refine DH.pure (i:=6) [(210,_,some 5)] rfl rfl rfl rfl ⟨⟨rfl,rfl,rfl⟩,trivial⟩ (fun _ ext=>TL.extract hF rfl rfl rfl TL.fin) ?_
      refine DH.pure (i:=7) [(210,_,some 5)] rfl rfl rfl rfl ⟨⟨rfl,rfl,rfl⟩,trivial⟩ (fun _ ext=>TL.extract hF rfl rfl rfl TL.fin) ?_
      refine DH.pure (i:=8) [(216,_,some 6)] rfl rfl rfl rfl ⟨⟨rfl,rfl,rfl⟩,trivial⟩ (fun _ ext=>TL.assign hF rfl rfl TL.fin) ?_
      refine DH.done [(30,_),(217,_),(216,_),(210,_),(215,_),(214,_),(212,_),(213,_),(211,_)] [_] (by kernel_rfl) (by kernel_rfl) (by kernel_rfl) (by kernel_rfl) rfl rfl ?_
      refine TL.assign hF rfl rfl ?_
      refine TL.nil ?_
      refine TQ.hsub η (List.sublist_append_right _ _) ?_
      exact TQ.cut () trivial ⟨rfl,rfl,rfl,rfl,rfl,rfl,rfl,rfl,rfl,rfl,trivial⟩ rfl
     ·refine TL.makeSlice hF (k:=31) rfl rfl rfl (by decide) (by decide) rfl (fun b214=>?_)
      refine TL.finD ?_
      refine DH.heavy 1 [] (by kernel_rfl) (by kernel_rfl) (by kernel_rfl) (by kernel_rfl) rfl rfl rfl rfl trivial (by kernel_rfl) (fun ext=>?_)
      refine TL.buildSlice hF rfl (cs:=#[.int .i64 1]) (e:=3) (fun w=>by kernel_rfl) rfl (fun b212=>?_)
      refine TL.finD ?_
      refine DH.heavy 4 [(211,_,some 0),(212,_,some 1),(213,_,some 2),(214,_,some 3)] (by kernel_rfl) (by kernel_rfl) (by kernel_rfl) (by kernel_rfl) rfl rfl rfl rfl ⟨⟨rfl,rfl,rfl⟩,⟨rfl,rfl,rfl⟩,⟨rfl,rfl,rfl⟩,⟨rfl,rfl,rfl⟩,trivial⟩ (by kernel_rfl) (fun ext=>?_)
      refine TL.call hF (Play_own [_,_] (cells:=[1]) (cc:=1) (k:=1) (m:=31) (ps:=zeroEd 31) (top:=(0,1)) hT hfs hfl (row_own (cs:=ints [1]) (e:=3) (b:=b212) (mem2 (by first | exact .inl rfl | exact .inr rfl))) (by rfl) (by decide) (zeroEd_gl (b:=b214) (mem2 (by first | exact .inl rfl | exact .inr rfl))) (zeroEd_len 31) (by decide) (zeroEd_small 31) (by rw [hfx,zeroEd_rounds]; exact kn8)) rfl rfl ?_
      rintro _ _ ⟨a28,c28,segs28,rfl,rfl⟩
      refine TL.finD ?_
      refine DH.pure (i:=5) [(215,_,some 4)] rfl rfl rfl rfl ⟨⟨rfl,rfl,rfl⟩,trivial⟩ (fun _ ext=>TL.move hF rfl rfl TL.fin) ?_
      refine DH.pure (i:=6) [(210,_,some 5)] rfl rfl rfl rfl ⟨⟨rfl,rfl,rfl⟩,trivial⟩ (fun _ ext=>TL.extract hF rfl rfl rfl TL.fin) ?_
      refine DH.pure (i:=7) [(210,_,some 5)] rfl rfl rfl rfl ⟨⟨rfl,rfl,rfl⟩,trivial⟩ (fun _ ext=>TL.extract hF rfl rfl rfl TL.fin) ?_
      refine DH.pure (i:=8) [(216,_,some 6)] rfl rfl rfl rfl ⟨⟨rfl,rfl,rfl⟩,trivial⟩ (fun _ ext=>TL.assign hF rfl rfl TL.fin) ?_
      refine DH.done [(30,_),(217,_),(216,_),(210,_),(215,_),(212,_),(214,_),(213,_),(211,_)] [_] (by kernel_rfl) (by kernel_rfl) (by kernel_rfl) (by kernel_rfl) rfl rfl ?_
      refine TL.assign hF rfl rfl ?_
      refine TL.nil ?_
      refine TQ.hsub η (List.sublist_append_right _ _) ?_
      exact TQ.cut () trivial ⟨rfl,rfl,rfl,rfl,rfl,rfl,rfl,rfl,rfl,rfl,trivial⟩ rfl
    ·rintro _ _
     refine T.cut (ι:=Unit) (fun _=>True) (fun _=>[(0,.bool false),(15,.slice fa fl.length fc),(17,.int .i64 2),(19,.int .i64 2),(21,.int .i64 2),(23,.int .i64 2),(25,.int .i64 2),(27,.int .i64 2),(29,.int .i64 2),(31,.int .i64 3),(33,.int .i64 3)]) (fun _=>η) ?_ ?_
     ·refine T.drawH 12 mixed ?_
      refine DH.pure (i:=0) [(15,_,none)] rfl rfl rfl rfl ⟨⟨rfl,by kernel_rfl⟩,trivial⟩ (fun _ ext=>TL.move hF rfl rfl TL.fin) ?_
      refine DH.pure (i:=2) [] rfl rfl rfl rfl trivial (fun _ ext=>TL.callV hF (at_fn 0 1) rfl rfl TL.fin) ?_
      refine DH.pure (i:=3) [] rfl rfl rfl rfl trivial (fun _ ext=>TL.build hF rfl (r:=kV (1,0)) (fun w=>by kernel_rfl) rfl TL.fin) ?_
      refine DH.heavy3 (h1:=1) (h2:=4) (h3:=5) (by kernel_rfl) (by kernel_rfl) (by kernel_rfl) (by kernel_rfl) ⟨_,_,[],rfl,rfl,rfl,rfl,trivial,by kernel_rfl,fun ext=>?_⟩ ⟨_,_,[(222,_,some 3)],rfl,rfl,rfl,rfl,⟨⟨rfl,rfl,rfl⟩,trivial⟩,by kernel_rfl,fun ext=>?_⟩ ⟨_,_,[],rfl,rfl,rfl,rfl,trivial,by kernel_rfl,fun ext=>?_⟩
      ·refine TL.buildSlice hF rfl (cs:=#[.int .i64 1]) (e:=3) (fun w=>by kernel_rfl) rfl (fun b220=>?_)
       refine TL.finD ?_
       refine DH.heavy2 (h1:=4) (h2:=5) (by kernel_rfl) (by kernel_rfl) (by kernel_rfl) (by kernel_rfl) ⟨_,_,[(222,_,some 3)],rfl,rfl,rfl,rfl,⟨⟨rfl,rfl,rfl⟩,trivial⟩,by kernel_rfl,fun ext=>?_⟩ ⟨_,_,[],rfl,rfl,rfl,rfl,trivial,by kernel_rfl,fun ext=>?_⟩
       ·refine TL.buildSlice hF rfl (cs:=(([(1,0)]:List Key).flatMap kC).toArray) (e:=60) (fun w=>by kernel_rfl) rfl (fun b223=>?_)
        refine TL.finD ?_
        refine DH.heavy 5 [] (by kernel_rfl) (by kernel_rfl) (by kernel_rfl) (by kernel_rfl) rfl rfl rfl rfl trivial (by kernel_rfl) (fun ext=>?_)
        refine TL.makeSliceN hF (k:=31) rfl rfl (List.replicate (31*2) (.int .i64 0)) (zfillK _) (by decide) (by decide) (by decide) (by decide) rfl (fun b224=>?_)
        refine TL.finD ?_
        refine DH.heavy 6 [(223,_,some 4),(224,_,some 5)] (by kernel_rfl) (by kernel_rfl) (by kernel_rfl) (by kernel_rfl) rfl rfl rfl rfl ⟨⟨rfl,rfl,rfl⟩,⟨rfl,rfl,rfl⟩,trivial⟩ (by kernel_rfl) (fun ext=>?_)
        refine TL.buildSlice hF rfl (cs:=#[.slice (some ⟨b223,0,none⟩) 1 1,.slice (some ⟨b224,0,none⟩) 31 31]) (e:=38) (fun w=>by kernel_rfl) rfl (fun b225=>?_)
        refine TL.finD ?_
        refine DH.heavy 7 [(219,_,some 0),(220,_,some 1),(221,_,some 2),(225,_,some 6)] (by kernel_rfl) (by kernel_rfl) (by kernel_rfl) (by kernel_rfl) rfl rfl rfl rfl ⟨⟨rfl,rfl,rfl⟩,⟨rfl,rfl,rfl⟩,⟨rfl,rfl,rfl⟩,⟨rfl,rfl,rfl⟩,trivial⟩ (by kernel_rfl) (fun ext=>?_)
        refine TL.call hF (Play_own [_,_,_,_] (cells:=[1]) (cc:=1) (k:=1) (m:=2) (ps:=[(some ⟨b223,0,none⟩,[(1,0)],1),(some ⟨b224,0,none⟩,zeroK 31,31)]) (top:=(0,1)) hT hfs hfl (row_own (cs:=ints [1]) (e:=3) (b:=b220) (mem4 (by first | exact .inl rfl | exact .inr (.inl rfl) | exact .inr (.inr (.inl rfl)) | exact .inr (.inr (.inr rfl))))) (by rfl) (by decide) (gl29 (b1:=b223) (b2:=b224) (b3:=b225) (mem4 (by first | exact .inl rfl | exact .inr (.inl rfl) | exact .inr (.inr (.inl rfl)) | exact .inr (.inr (.inr rfl)))) (mem4 (by first | exact .inl rfl | exact .inr (.inl rfl) | exact .inr (.inr (.inl rfl)) | exact .inr (.inr (.inr rfl)))) (mem4 (by first | exact .inl rfl | exact .inr (.inl rfl) | exact .inr (.inr (.inl rfl)) | exact .inr (.inr (.inr rfl))))) (by rfl) (by decide) small29 (by rw [hfx]; exact kn9)) rfl rfl ?_
        rintro _ _ ⟨a29,c29,segs29,rfl,rfl⟩
        refine TL.finD ?_
        refine DH.pure (i:=8) [(226,_,some 7)] rfl rfl rfl rfl ⟨⟨rfl,rfl,rfl⟩,trivial⟩ (fun _ ext=>TL.move hF rfl rfl TL.fin) ?_
        refine DH.pure (i:=9) [(218,_,some 8)] rfl rfl rfl rfl ⟨⟨rfl,rfl,rfl⟩,trivial⟩ (fun _ ext=>TL.extract hF rfl rfl rfl TL.fin) ?_
        refine DH.pure (i:=10) [(218,_,some 8)] rfl rfl rfl rfl ⟨⟨rfl,rfl,rfl⟩,trivial⟩ (fun _ ext=>TL.extract hF rfl rfl rfl TL.fin) ?_
        refine DH.pure (i:=11) [(227,_,some 9)] rfl rfl rfl rfl ⟨⟨rfl,rfl,rfl⟩,trivial⟩ (fun _ ext=>TL.assign hF rfl rfl TL.fin) ?_
        refine DH.done [(32,_),(228,_),(227,_),(218,_),(226,_),(225,_),(224,_),(223,_),(220,_),(222,_),(221,_),(219,_)] [_] (by kernel_rfl) (by kernel_rfl) (by kernel_rfl) (by kernel_rfl) rfl rfl ?_
        refine TL.assign hF rfl rfl ?_
        refine TL.nil ?_
        refine TQ.hsub η (List.sublist_append_right _ _) ?_
        exact TQ.cut () trivial ⟨rfl,rfl,rfl,rfl,rfl,rfl,rfl,rfl,rfl,rfl,rfl,trivial⟩ rfl
       ·refine TL.makeSliceN hF (k:=31) rfl rfl (List.replicate (31*2) (.int .i64 0)) (zfillK _) (by decide) (by decide) (by decide) (by decide) rfl (fun b224=>?_)
        refine TL.finD ?_
        refine DH.heavy 4 [(222,_,some 3)] (by kernel_rfl) (by kernel_rfl) (by kernel_rfl) (by kernel_rfl) rfl rfl rfl rfl ⟨⟨rfl,rfl,rfl⟩,trivial⟩ (by kernel_rfl) (fun ext=>?_)
        refine TL.buildSlice hF rfl (cs:=(([(1,0)]:List Key).flatMap kC).toArray) (e:=60) (fun w=>by kernel_rfl) rfl (fun b223=>?_)
        refine TL.finD ?_
        refine DH.heavy 6 [(223,_,some 4),(224,_,some 5)] (by kernel_rfl) (by kernel_rfl) (by kernel_rfl) (by kernel_rfl) rfl rfl rfl rfl ⟨⟨rfl,rfl,rfl⟩,⟨rfl,rfl,rfl⟩,trivial⟩ (by kernel_rfl) (fun ext=>?_)
        refine TL.buildSlice hF rfl (cs:=#[.slice (some ⟨b223,0,none⟩) 1 1,.slice (some ⟨b224,0,none⟩) 31 31]) (e:=38) (fun w=>by kernel_rfl) rfl (fun b225=>?_)
        refine TL.finD ?_
        refine DH.heavy 7 [(219,_,some 0),(220,_,some 1),(221,_,some 2),(225,_,some 6)] (by kernel_rfl) (by kernel_rfl) (by kernel_rfl) (by kernel_rfl) rfl rfl rfl rfl ⟨⟨rfl,rfl,rfl⟩,⟨rfl,rfl,rfl⟩,⟨rfl,rfl,rfl⟩,⟨rfl,rfl,rfl⟩,trivial⟩ (by kernel_rfl) (fun ext=>?_)
        refine TL.call hF (Play_own [_,_,_,_] (cells:=[1]) (cc:=1) (k:=1) (m:=2) (ps:=[(some ⟨b223,0,none⟩,[(1,0)],1),(some ⟨b224,0,none⟩,zeroK 31,31)]) (top:=(0,1)) hT hfs hfl (row_own (cs:=ints [1]) (e:=3) (b:=b220) (mem4 (by first | exact .inl rfl | exact .inr (.inl rfl) | exact .inr (.inr (.inl rfl)) | exact .inr (.inr (.inr rfl))))) (by rfl) (by decide) (gl29 (b1:=b223) (b2:=b224) (b3:=b225) (mem4 (by first | exact .inl rfl | exact .inr (.inl rfl) | exact .inr (.inr (.inl rfl)) | exact .inr (.inr (.inr rfl)))) (mem4 (by first | exact .inl rfl | exact .inr (.inl rfl) | exact .inr (.inr (.inl rfl)) | exact .inr (.inr (.inr rfl)))) (mem4 (by first | exact .inl rfl | exact .inr (.inl rfl) | exact .inr (.inr (.inl rfl)) | exact .inr (.inr (.inr rfl))))) (by rfl) (by decide) small29 (by rw [hfx]; exact kn9)) rfl rfl ?_
        rintro _ _ ⟨a29,c29,segs29,rfl,rfl⟩
        refine TL.finD ?_
        refine DH.pure (i:=8) [(226,_,some 7)] rfl rfl rfl rfl ⟨⟨rfl,rfl,rfl⟩,trivial⟩ (fun _ ext=>TL.move hF rfl rfl TL.fin) ?_
        refine DH.pure (i:=9) [(218,_,some 8)] rfl rfl rfl rfl ⟨⟨rfl,rfl,rfl⟩,trivial⟩ (fun _ ext=>TL.extract hF rfl rfl rfl TL.fin) ?_
        refine DH.pure (i:=10) [(218,_,some 8)] rfl rfl rfl rfl ⟨⟨rfl,rfl,rfl⟩,trivial⟩ (fun _ ext=>TL.extract hF rfl rfl rfl TL.fin) ?_
        refine DH.pure (i:=11) [(227,_,some 9)] rfl rfl rfl rfl ⟨⟨rfl,rfl,rfl⟩,trivial⟩ (fun _ ext=>TL.assign hF rfl rfl TL.fin) ?_
        refine DH.done [(32,_),(228,_),(227,_),(218,_),(226,_),(225,_),(223,_),(224,_),(220,_),(222,_),(221,_),(219,_)] [_] (by kernel_rfl) (by kernel_rfl) (by kernel_rfl) (by kernel_rfl) rfl rfl ?_
        refine TL.assign hF rfl rfl ?_
        refine TL.nil ?_
        refine TQ.hsub η (List.sublist_append_right _ _) ?_
        exact TQ.cut () trivial ⟨rfl,rfl,rfl,rfl,rfl,rfl,rfl,rfl,rfl,rfl,rfl,trivial⟩ rfl
      ·refine TL.buildSlice hF rfl (cs:=(([(1,0)]:List Key).flatMap kC).toArray) (e:=60) (fun w=>by kernel_rfl) rfl (fun b223=>?_)
       refine TL.finD ?_
       refine DH.heavy2 (h1:=1) (h2:=5) (by kernel_rfl) (by kernel_rfl) (by kernel_rfl) (by kernel_rfl) ⟨_,_,[],rfl,rfl,rfl,rfl,trivial,by kernel_rfl,fun ext=>?_⟩ ⟨_,_,[],rfl,rfl,rfl,rfl,trivial,by kernel_rfl,fun ext=>?_⟩
       ·refine TL.buildSlice hF rfl (cs:=#[.int .i64 1]) (e:=3) (fun w=>by kernel_rfl) rfl (fun b220=>?_)
        refine TL.finD ?_
        refine DH.heavy 5 [] (by kernel_rfl) (by kernel_rfl) (by kernel_rfl) (by kernel_rfl) rfl rfl rfl rfl trivial (by kernel_rfl) (fun ext=>?_)
        refine TL.makeSliceN hF (k:=31) rfl rfl (List.replicate (31*2) (.int .i64 0)) (zfillK _) (by decide) (by decide) (by decide) (by decide) rfl (fun b224=>?_)
        refine TL.finD ?_
        refine DH.heavy 6 [(223,_,some 4),(224,_,some 5)] (by kernel_rfl) (by kernel_rfl) (by kernel_rfl) (by kernel_rfl) rfl rfl rfl rfl ⟨⟨rfl,rfl,rfl⟩,⟨rfl,rfl,rfl⟩,trivial⟩ (by kernel_rfl) (fun ext=>?_)
        refine TL.buildSlice hF rfl (cs:=#[.slice (some ⟨b223,0,none⟩) 1 1,.slice (some ⟨b224,0,none⟩) 31 31]) (e:=38) (fun w=>by kernel_rfl) rfl (fun b225=>?_)
        refine TL.finD ?_
        refine DH.heavy 7 [(219,_,some 0),(220,_,some 1),(221,_,some 2),(225,_,some 6)] (by kernel_rfl) (by kernel_rfl) (by kernel_rfl) (by kernel_rfl) rfl rfl rfl rfl ⟨⟨rfl,rfl,rfl⟩,⟨rfl,rfl,rfl⟩,⟨rfl,rfl,rfl⟩,⟨rfl,rfl,rfl⟩,trivial⟩ (by kernel_rfl) (fun ext=>?_)
        refine TL.call hF (Play_own [_,_,_,_] (cells:=[1]) (cc:=1) (k:=1) (m:=2) (ps:=[(some ⟨b223,0,none⟩,[(1,0)],1),(some ⟨b224,0,none⟩,zeroK 31,31)]) (top:=(0,1)) hT hfs hfl (row_own (cs:=ints [1]) (e:=3) (b:=b220) (mem4 (by first | exact .inl rfl | exact .inr (.inl rfl) | exact .inr (.inr (.inl rfl)) | exact .inr (.inr (.inr rfl))))) (by rfl) (by decide) (gl29 (b1:=b223) (b2:=b224) (b3:=b225) (mem4 (by first | exact .inl rfl | exact .inr (.inl rfl) | exact .inr (.inr (.inl rfl)) | exact .inr (.inr (.inr rfl)))) (mem4 (by first | exact .inl rfl | exact .inr (.inl rfl) | exact .inr (.inr (.inl rfl)) | exact .inr (.inr (.inr rfl)))) (mem4 (by first | exact .inl rfl | exact .inr (.inl rfl) | exact .inr (.inr (.inl rfl)) | exact .inr (.inr (.inr rfl))))) (by rfl) (by decide) small29 (by rw [hfx]; exact kn9)) rfl rfl ?_
        rintro _ _ ⟨a29,c29,segs29,rfl,rfl⟩
        refine TL.finD ?_
        refine DH.pure (i:=8) [(226,_,some 7)] rfl rfl rfl rfl ⟨⟨rfl,rfl,rfl⟩,trivial⟩ (fun _ ext=>TL.move hF rfl rfl TL.fin) ?_
        refine DH.pure (i:=9) [(218,_,some 8)] rfl rfl rfl rfl ⟨⟨rfl,rfl,rfl⟩,trivial⟩ (fun _ ext=>TL.extract hF rfl rfl rfl TL.fin) ?_
        refine DH.pure (i:=10) [(218,_,some 8)] rfl rfl rfl rfl ⟨⟨rfl,rfl,rfl⟩,trivial⟩ (fun _ ext=>TL.extract hF rfl rfl rfl TL.fin) ?_
        refine DH.pure (i:=11) [(227,_,some 9)] rfl rfl rfl rfl ⟨⟨rfl,rfl,rfl⟩,trivial⟩ (fun _ ext=>TL.assign hF rfl rfl TL.fin) ?_
        refine DH.done [(32,_),(228,_),(227,_),(218,_),(226,_),(225,_),(224,_),(220,_),(223,_),(222,_),(221,_),(219,_)] [_] (by kernel_rfl) (by kernel_rfl) (by kernel_rfl) (by kernel_rfl) rfl rfl ?_
        refine TL.assign hF rfl rfl ?_
        refine TL.nil ?_
        refine TQ.hsub η (List.sublist_append_right _ _) ?_
        exact TQ.cut () trivial ⟨rfl,rfl,rfl,rfl,rfl,rfl,rfl,rfl,rfl,rfl,rfl,trivial⟩ rfl
       ·refine TL.makeSliceN hF (k:=31) rfl rfl (List.replicate (31*2) (.int .i64 0)) (zfillK _) (by decide) (by decide) (by decide) (by decide) rfl (fun b224=>?_)
        refine TL.finD ?_
        refine DH.heavy2 (h1:=1) (h2:=6) (by kernel_rfl) (by kernel_rfl) (by kernel_rfl) (by kernel_rfl) ⟨_,_,[],rfl,rfl,rfl,rfl,trivial,by kernel_rfl,fun ext=>?_⟩ ⟨_,_,[(223,_,some 4),(224,_,some 5)],rfl,rfl,rfl,rfl,⟨⟨rfl,rfl,rfl⟩,⟨rfl,rfl,rfl⟩,trivial⟩,by kernel_rfl,fun ext=>?_⟩
        ·refine TL.buildSlice hF rfl (cs:=#[.int .i64 1]) (e:=3) (fun w=>by kernel_rfl) rfl (fun b220=>?_)
         refine TL.finD ?_
         refine DH.heavy 6 [(223,_,some 4),(224,_,some 5)] (by kernel_rfl) (by kernel_rfl) (by kernel_rfl) (by kernel_rfl) rfl rfl rfl rfl ⟨⟨rfl,rfl,rfl⟩,⟨rfl,rfl,rfl⟩,trivial⟩ (by kernel_rfl) (fun ext=>?_)
         refine TL.buildSlice hF rfl (cs:=#[.slice (some ⟨b223,0,none⟩) 1 1,.slice (some ⟨b224,0,none⟩) 31 31]) (e:=38) (fun w=>by kernel_rfl) rfl (fun b225=>?_)
         refine TL.finD ?_
         refine DH.heavy 7 [(219,_,some 0),(220,_,some 1),(221,_,some 2),(225,_,some 6)] (by kernel_rfl) (by kernel_rfl) (by kernel_rfl) (by kernel_rfl) rfl rfl rfl rfl ⟨⟨rfl,rfl,rfl⟩,⟨rfl,rfl,rfl⟩,⟨rfl,rfl,rfl⟩,⟨rfl,rfl,rfl⟩,trivial⟩ (by kernel_rfl) (fun ext=>?_)
         refine TL.call hF (Play_own [_,_,_,_] (cells:=[1]) (cc:=1) (k:=1) (m:=2) (ps:=[(some ⟨b223,0,none⟩,[(1,0)],1),(some ⟨b224,0,none⟩,zeroK 31,31)]) (top:=(0,1)) hT hfs hfl (row_own (cs:=ints [1]) (e:=3) (b:=b220) (mem4 (by first | exact .inl rfl | exact .inr (.inl rfl) | exact .inr (.inr (.inl rfl)) | exact .inr (.inr (.inr rfl))))) (by rfl) (by decide) (gl29 (b1:=b223) (b2:=b224) (b3:=b225) (mem4 (by first | exact .inl rfl | exact .inr (.inl rfl) | exact .inr (.inr (.inl rfl)) | exact .inr (.inr (.inr rfl)))) (mem4 (by first | exact .inl rfl | exact .inr (.inl rfl) | exact .inr (.inr (.inl rfl)) | exact .inr (.inr (.inr rfl)))) (mem4 (by first | exact .inl rfl | exact .inr (.inl rfl) | exact .inr (.inr (.inl rfl)) | exact .inr (.inr (.inr rfl))))) (by rfl) (by decide) small29 (by rw [hfx]; exact kn9)) rfl rfl ?_
         rintro _ _ ⟨a29,c29,segs29,rfl,rfl⟩
         refine TL.finD ?_
         refine DH.pure (i:=8) [(226,_,some 7)] rfl rfl rfl rfl ⟨⟨rfl,rfl,rfl⟩,trivial⟩ (fun _ ext=>TL.move hF rfl rfl TL.fin) ?_
         refine DH.pure (i:=9) [(218,_,some 8)] rfl rfl rfl rfl ⟨⟨rfl,rfl,rfl⟩,trivial⟩ (fun _ ext=>TL.extract hF rfl rfl rfl TL.fin) ?_
         refine DH.pure (i:=10) [(218,_,some 8)] rfl rfl rfl rfl ⟨⟨rfl,rfl,rfl⟩,trivial⟩ (fun _ ext=>TL.extract hF rfl rfl rfl TL.fin) ?_
         refine DH.pure (i:=11) [(227,_,some 9)] rfl rfl rfl rfl ⟨⟨rfl,rfl,rfl⟩,trivial⟩ (fun _ ext=>TL.assign hF rfl rfl TL.fin) ?_
         refine DH.done [(32,_),(228,_),(227,_),(218,_),(226,_),(225,_),(220,_),(224,_),(223,_),(222,_),(221,_),(219,_)] [_] (by kernel_rfl) (by kernel_rfl) (by kernel_rfl) (by kernel_rfl) rfl rfl ?_
         refine TL.assign hF rfl rfl ?_
         refine TL.nil ?_
         refine TQ.hsub η (List.sublist_append_right _ _) ?_
         exact TQ.cut () trivial ⟨rfl,rfl,rfl,rfl,rfl,rfl,rfl,rfl,rfl,rfl,rfl,trivial⟩ rfl
        ·refine TL.buildSlice hF rfl (cs:=#[.slice (some ⟨b223,0,none⟩) 1 1,.slice (some ⟨b224,0,none⟩) 31 31]) (e:=38) (fun w=>by kernel_rfl) rfl (fun b225=>?_)
         refine TL.finD ?_
         refine DH.heavy 1 [] (by kernel_rfl) (by kernel_rfl) (by kernel_rfl) (by kernel_rfl) rfl rfl rfl rfl trivial (by kernel_rfl) (fun ext=>?_)
         refine TL.buildSlice hF rfl (cs:=#[.int .i64 1]) (e:=3) (fun w=>by kernel_rfl) rfl (fun b220=>?_)
         refine TL.finD ?_
         refine DH.heavy 7 [(219,_,some 0),(220,_,some 1),(221,_,some 2),(225,_,some 6)] (by kernel_rfl) (by kernel_rfl) (by kernel_rfl) (by kernel_rfl) rfl rfl rfl rfl ⟨⟨rfl,rfl,rfl⟩,⟨rfl,rfl,rfl⟩,⟨rfl,rfl,rfl⟩,⟨rfl,rfl,rfl⟩,trivial⟩ (by kernel_rfl) (fun ext=>?_)
         refine TL.call hF (Play_own [_,_,_,_] (cells:=[1]) (cc:=1) (k:=1) (m:=2) (ps:=[(some ⟨b223,0,none⟩,[(1,0)],1),(some ⟨b224,0,none⟩,zeroK 31,31)]) (top:=(0,1)) hT hfs hfl (row_own (cs:=ints [1]) (e:=3) (b:=b220) (mem4 (by first | exact .inl rfl | exact .inr (.inl rfl) | exact .inr (.inr (.inl rfl)) | exact .inr (.inr (.inr rfl))))) (by rfl) (by decide) (gl29 (b1:=b223) (b2:=b224) (b3:=b225) (mem4 (by first | exact .inl rfl | exact .inr (.inl rfl) | exact .inr (.inr (.inl rfl)) | exact .inr (.inr (.inr rfl)))) (mem4 (by first | exact .inl rfl | exact .inr (.inl rfl) | exact .inr (.inr (.inl rfl)) | exact .inr (.inr (.inr rfl)))) (mem4 (by first | exact .inl rfl | exact .inr (.inl rfl) | exact .inr (.inr (.inl rfl)) | exact .inr (.inr (.inr rfl))))) (by rfl) (by decide) small29 (by rw [hfx]; exact kn9)) rfl rfl ?_
         rintro _ _ ⟨a29,c29,segs29,rfl,rfl⟩
         refine TL.finD ?_
         refine DH.pure (i:=8) [(226,_,some 7)] rfl rfl rfl rfl ⟨⟨rfl,rfl,rfl⟩,trivial⟩ (fun _ ext=>TL.move hF rfl rfl TL.fin) ?_
         refine DH.pure (i:=9) [(218,_,some 8)] rfl rfl rfl rfl ⟨⟨rfl,rfl,rfl⟩,trivial⟩ (fun _ ext=>TL.extract hF rfl rfl rfl TL.fin) ?_
         refine DH.pure (i:=10) [(218,_,some 8)] rfl rfl rfl rfl ⟨⟨rfl,rfl,rfl⟩,trivial⟩ (fun _ ext=>TL.extract hF rfl rfl rfl TL.fin) ?_
         refine DH.pure (i:=11) [(227,_,some 9)] rfl rfl rfl rfl ⟨⟨rfl,rfl,rfl⟩,trivial⟩ (fun _ ext=>TL.assign hF rfl rfl TL.fin) ?_
         refine DH.done [(32,_),(228,_),(227,_),(218,_),(226,_),(220,_),(225,_),(224,_),(223,_),(222,_),(221,_),(219,_)] [_] (by kernel_rfl) (by kernel_rfl) (by kernel_rfl) (by kernel_rfl) rfl rfl ?_
         refine TL.assign hF rfl rfl ?_
         refine TL.nil ?_
         refine TQ.hsub η (List.sublist_append_right _ _) ?_
         exact TQ.cut () trivial ⟨rfl,rfl,rfl,rfl,rfl,rfl,rfl,rfl,rfl,rfl,rfl,trivial⟩ rfl
      ·refine TL.makeSliceN hF (k:=31) rfl rfl (List.replicate (31*2) (.int .i64 0)) (zfillK _) (by decide) (by decide) (by decide) (by decide) rfl (fun b224=>?_)
       refine TL.finD ?_
       refine DH.heavy2 (h1:=1) (h2:=4) (by kernel_rfl) (by kernel_rfl) (by kernel_rfl) (by kernel_rfl) ⟨_,_,[],rfl,rfl,rfl,rfl,trivial,by kernel_rfl,fun ext=>?_⟩ ⟨_,_,[(222,_,some 3)],rfl,rfl,rfl,rfl,⟨⟨rfl,rfl,rfl⟩,trivial⟩,by kernel_rfl,fun ext=>?_⟩
       ·refine TL.buildSlice hF rfl (cs:=#[.int .i64 1]) (e:=3) (fun w=>by kernel_rfl) rfl (fun b220=>?_)
        refine TL.finD ?_
        refine DH.heavy 4 [(222,_,some 3)] (by kernel_rfl) (by kernel_rfl) (by kernel_rfl) (by kernel_rfl) rfl rfl rfl rfl ⟨⟨rfl,rfl,rfl⟩,trivial⟩ (by kernel_rfl) (fun ext=>?_)
        refine TL.buildSlice hF rfl (cs:=(([(1,0)]:List Key).flatMap kC).toArray) (e:=60) (fun w=>by kernel_rfl) rfl (fun b223=>?_)
        refine TL.finD ?_
        refine DH.heavy 6 [(223,_,some 4),(224,_,some 5)] (by kernel_rfl) (by kernel_rfl) (by kernel_rfl) (by kernel_rfl) rfl rfl rfl rfl ⟨⟨rfl,rfl,rfl⟩,⟨rfl,rfl,rfl⟩,trivial⟩ (by kernel_rfl) (fun ext=>?_)
        refine TL.buildSlice hF rfl (cs:=#[.slice (some ⟨b223,0,none⟩) 1 1,.slice (some ⟨b224,0,none⟩) 31 31]) (e:=38) (fun w=>by kernel_rfl) rfl (fun b225=>?_)
        refine TL.finD ?_
        refine DH.heavy 7 [(219,_,some 0),(220,_,some 1),(221,_,some 2),(225,_,some 6)] (by kernel_rfl) (by kernel_rfl) (by kernel_rfl) (by kernel_rfl) rfl rfl rfl rfl ⟨⟨rfl,rfl,rfl⟩,⟨rfl,rfl,rfl⟩,⟨rfl,rfl,rfl⟩,⟨rfl,rfl,rfl⟩,trivial⟩ (by kernel_rfl) (fun ext=>?_)
        refine TL.call hF (Play_own [_,_,_,_] (cells:=[1]) (cc:=1) (k:=1) (m:=2) (ps:=[(some ⟨b223,0,none⟩,[(1,0)],1),(some ⟨b224,0,none⟩,zeroK 31,31)]) (top:=(0,1)) hT hfs hfl (row_own (cs:=ints [1]) (e:=3) (b:=b220) (mem4 (by first | exact .inl rfl | exact .inr (.inl rfl) | exact .inr (.inr (.inl rfl)) | exact .inr (.inr (.inr rfl))))) (by rfl) (by decide) (gl29 (b1:=b223) (b2:=b224) (b3:=b225) (mem4 (by first | exact .inl rfl | exact .inr (.inl rfl) | exact .inr (.inr (.inl rfl)) | exact .inr (.inr (.inr rfl)))) (mem4 (by first | exact .inl rfl | exact .inr (.inl rfl) | exact .inr (.inr (.inl rfl)) | exact .inr (.inr (.inr rfl)))) (mem4 (by first | exact .inl rfl | exact .inr (.inl rfl) | exact .inr (.inr (.inl rfl)) | exact .inr (.inr (.inr rfl))))) (by rfl) (by decide) small29 (by rw [hfx]; exact kn9)) rfl rfl ?_
        rintro _ _ ⟨a29,c29,segs29,rfl,rfl⟩
        refine TL.finD ?_
        refine DH.pure (i:=8) [(226,_,some 7)] rfl rfl rfl rfl ⟨⟨rfl,rfl,rfl⟩,trivial⟩ (fun _ ext=>TL.move hF rfl rfl TL.fin) ?_
        refine DH.pure (i:=9) [(218,_,some 8)] rfl rfl rfl rfl ⟨⟨rfl,rfl,rfl⟩,trivial⟩ (fun _ ext=>TL.extract hF rfl rfl rfl TL.fin) ?_
        refine DH.pure (i:=10) [(218,_,some 8)] rfl rfl rfl rfl ⟨⟨rfl,rfl,rfl⟩,trivial⟩ (fun _ ext=>TL.extract hF rfl rfl rfl TL.fin) ?_
        refine DH.pure (i:=11) [(227,_,some 9)] rfl rfl rfl rfl ⟨⟨rfl,rfl,rfl⟩,trivial⟩ (fun _ ext=>TL.assign hF rfl rfl TL.fin) ?_
        refine DH.done [(32,_),(228,_),(227,_),(218,_),(226,_),(225,_),(223,_),(220,_),(224,_),(222,_),(221,_),(219,_)] [_] (by kernel_rfl) (by kernel_rfl) (by kernel_rfl) (by kernel_rfl) rfl rfl ?_
        refine TL.assign hF rfl rfl ?_
        refine TL.nil ?_
        refine TQ.hsub η (List.sublist_append_right _ _) ?_
        exact TQ.cut () trivial ⟨rfl,rfl,rfl,rfl,rfl,rfl,rfl,rfl,rfl,rfl,rfl,trivial⟩ rfl
       ·refine TL.buildSlice hF rfl (cs:=(([(1,0)]:List Key).flatMap kC).toArray) (e:=60) (fun w=>by kernel_rfl) rfl (fun b223=>?_)
        refine TL.finD ?_
        refine DH.heavy2 (h1:=1) (h2:=6) (by kernel_rfl) (by kernel_rfl) (by kernel_rfl) (by kernel_rfl) ⟨_,_,[],rfl,rfl,rfl,rfl,trivial,by kernel_rfl,fun ext=>?_⟩ ⟨_,_,[(223,_,some 4),(224,_,some 5)],rfl,rfl,rfl,rfl,⟨⟨rfl,rfl,rfl⟩,⟨rfl,rfl,rfl⟩,trivial⟩,by kernel_rfl,fun ext=>?_⟩
        ·refine TL.buildSlice hF rfl (cs:=#[.int .i64 1]) (e:=3) (fun w=>by kernel_rfl) rfl (fun b220=>?_)
         refine TL.finD ?_
         refine DH.heavy 6 [(223,_,some 4),(224,_,some 5)] (by kernel_rfl) (by kernel_rfl) (by kernel_rfl) (by kernel_rfl) rfl rfl rfl rfl ⟨⟨rfl,rfl,rfl⟩,⟨rfl,rfl,rfl⟩,trivial⟩ (by kernel_rfl) (fun ext=>?_)
         refine TL.buildSlice hF rfl (cs:=#[.slice (some ⟨b223,0,none⟩) 1 1,.slice (some ⟨b224,0,none⟩) 31 31]) (e:=38) (fun w=>by kernel_rfl) rfl (fun b225=>?_)
         refine TL.finD ?_
         refine DH.heavy 7 [(219,_,some 0),(220,_,some 1),(221,_,some 2),(225,_,some 6)] (by kernel_rfl) (by kernel_rfl) (by kernel_rfl) (by kernel_rfl) rfl rfl rfl rfl ⟨⟨rfl,rfl,rfl⟩,⟨rfl,rfl,rfl⟩,⟨rfl,rfl,rfl⟩,⟨rfl,rfl,rfl⟩,trivial⟩ (by kernel_rfl) (fun ext=>?_)
         refine TL.call hF (Play_own [_,_,_,_] (cells:=[1]) (cc:=1) (k:=1) (m:=2) (ps:=[(some ⟨b223,0,none⟩,[(1,0)],1),(some ⟨b224,0,none⟩,zeroK 31,31)]) (top:=(0,1)) hT hfs hfl (row_own (cs:=ints [1]) (e:=3) (b:=b220) (mem4 (by first | exact .inl rfl | exact .inr (.inl rfl) | exact .inr (.inr (.inl rfl)) | exact .inr (.inr (.inr rfl))))) (by rfl) (by decide) (gl29 (b1:=b223) (b2:=b224) (b3:=b225) (mem4 (by first | exact .inl rfl | exact .inr (.inl rfl) | exact .inr (.inr (.inl rfl)) | exact .inr (.inr (.inr rfl)))) (mem4 (by first | exact .inl rfl | exact .inr (.inl rfl) | exact .inr (.inr (.inl rfl)) | exact .inr (.inr (.inr rfl)))) (mem4 (by first | exact .inl rfl | exact .inr (.inl rfl) | exact .inr (.inr (.inl rfl)) | exact .inr (.inr (.inr rfl))))) (by rfl) (by decide) small29 (by rw [hfx]; exact kn9)) rfl rfl ?_
         rintro _ _ ⟨a29,c29,segs29,rfl,rfl⟩
         refine TL.finD ?_
         refine DH.pure (i:=8) [(226,_,some 7)] rfl rfl rfl rfl ⟨⟨rfl,rfl,rfl⟩,trivial⟩ (fun _ ext=>TL.move hF rfl rfl TL.fin) ?_
         refine DH.pure (i:=9) [(218,_,some 8)] rfl rfl rfl rfl ⟨⟨rfl,rfl,rfl⟩,trivial⟩ (fun _ ext=>TL.extract hF rfl rfl rfl TL.fin) ?_
         refine DH.pure (i:=10) [(218,_,some 8)] rfl rfl rfl rfl ⟨⟨rfl,rfl,rfl⟩,trivial⟩ (fun _ ext=>TL.extract hF rfl rfl rfl TL.fin) ?_
         refine DH.pure (i:=11) [(227,_,some 9)] rfl rfl rfl rfl ⟨⟨rfl,rfl,rfl⟩,trivial⟩ (fun _ ext=>TL.assign hF rfl rfl TL.fin) ?_
         refine DH.done [(32,_),(228,_),(227,_),(218,_),(226,_),(225,_),(220,_),(223,_),(224,_),(222,_),(221,_),(219,_)] [_] (by kernel_rfl) (by kernel_rfl) (by kernel_rfl) (by kernel_rfl) rfl rfl ?_
         refine TL.assign hF rfl rfl ?_
         refine TL.nil ?_
         refine TQ.hsub η (List.sublist_append_right _ _) ?_
         exact TQ.cut () trivial ⟨rfl,rfl,rfl,rfl,rfl,rfl,rfl,rfl,rfl,rfl,rfl,trivial⟩ rfl
        ·refine TL.buildSlice hF rfl (cs:=#[.slice (some ⟨b223,0,none⟩) 1 1,.slice (some ⟨b224,0,none⟩) 31 31]) (e:=38) (fun w=>by kernel_rfl) rfl (fun b225=>?_)
         refine TL.finD ?_
         refine DH.heavy 1 [] (by kernel_rfl) (by kernel_rfl) (by kernel_rfl) (by kernel_rfl) rfl rfl rfl rfl trivial (by kernel_rfl) (fun ext=>?_)
         refine TL.buildSlice hF rfl (cs:=#[.int .i64 1]) (e:=3) (fun w=>by kernel_rfl) rfl (fun b220=>?_)
         refine TL.finD ?_
         refine DH.heavy 7 [(219,_,some 0),(220,_,some 1),(221,_,some 2),(225,_,some 6)] (by kernel_rfl) (by kernel_rfl) (by kernel_rfl) (by kernel_rfl) rfl rfl rfl rfl ⟨⟨rfl,rfl,rfl⟩,⟨rfl,rfl,rfl⟩,⟨rfl,rfl,rfl⟩,⟨rfl,rfl,rfl⟩,trivial⟩ (by kernel_rfl) (fun ext=>?_)
         refine TL.call hF (Play_own [_,_,_,_] (cells:=[1]) (cc:=1) (k:=1) (m:=2) (ps:=[(some ⟨b223,0,none⟩,[(1,0)],1),(some ⟨b224,0,none⟩,zeroK 31,31)]) (top:=(0,1)) hT hfs hfl (row_own (cs:=ints [1]) (e:=3) (b:=b220) (mem4 (by first | exact .inl rfl | exact .inr (.inl rfl) | exact .inr (.inr (.inl rfl)) | exact .inr (.inr (.inr rfl))))) (by rfl) (by decide) (gl29 (b1:=b223) (b2:=b224) (b3:=b225) (mem4 (by first | exact .inl rfl | exact .inr (.inl rfl) | exact .inr (.inr (.inl rfl)) | exact .inr (.inr (.inr rfl)))) (mem4 (by first | exact .inl rfl | exact .inr (.inl rfl) | exact .inr (.inr (.inl rfl)) | exact .inr (.inr (.inr rfl)))) (mem4 (by first | exact .inl rfl | exact .inr (.inl rfl) | exact .inr (.inr (.inl rfl)) | exact .inr (.inr (.inr rfl))))) (by rfl) (by decide) small29 (by rw [hfx]; exact kn9)) rfl rfl ?_
         rintro _ _ ⟨a29,c29,segs29,rfl,rfl⟩
         refine TL.finD ?_
         refine DH.pure (i:=8) [(226,_,some 7)] rfl rfl rfl rfl ⟨⟨rfl,rfl,rfl⟩,trivial⟩ (fun _ ext=>TL.move hF rfl rfl TL.fin) ?_
         refine DH.pure (i:=9) [(218,_,some 8)] rfl rfl rfl rfl ⟨⟨rfl,rfl,rfl⟩,trivial⟩ (fun _ ext=>TL.extract hF rfl rfl rfl TL.fin) ?_
         refine DH.pure (i:=10) [(218,_,some 8)] rfl rfl rfl rfl ⟨⟨rfl,rfl,rfl⟩,trivial⟩ (fun _ ext=>TL.extract hF rfl rfl rfl TL.fin) ?_
         refine DH.pure (i:=11) [(227,_,some 9)] rfl rfl rfl rfl ⟨⟨rfl,rfl,rfl⟩,trivial⟩ (fun _ ext=>TL.assign hF rfl rfl TL.fin) ?_
         refine DH.done [(32,_),(228,_),(227,_),(218,_),(226,_),(220,_),(225,_),(223,_),(224,_),(222,_),(221,_),(219,_)] [_] (by kernel_rfl) (by kernel_rfl) (by kernel_rfl) (by kernel_rfl) rfl rfl ?_
         refine TL.assign hF rfl rfl ?_
         refine TL.nil ?_
         refine TQ.hsub η (List.sublist_append_right _ _) ?_
         exact TQ.cut () trivial ⟨rfl,rfl,rfl,rfl,rfl,rfl,rfl,rfl,rfl,rfl,rfl,trivial⟩ rfl
     ·rintro _ _
      refine T.seq ?_
      refine T.region ?_
      refine TL.move hF rfl rfl ?_
      refine TL.buildSlice hF rfl (cs:=#[.int .i64 1]) (e:=3) (fun w=>by kernel_rfl) rfl (fun b231=>?_)
      refine TL.callV hF (at_fn 0 1) rfl rfl ?_
      refine TL.build hF rfl (r:=kV (1,0)) (fun w=>by kernel_rfl) rfl ?_
      refine TL.buildSlice hF rfl (cs:=(([(1,0)]:List Key).flatMap kC).toArray) (e:=60) (fun w=>by kernel_rfl) rfl (fun b234=>?_)
      refine TL.buildSlice hF rfl (cs:=#[.slice none 0 0,.slice (some ⟨b234,0,none⟩) 1 1]) (e:=38) (fun w=>by kernel_rfl) rfl (fun b235=>?_)
      refine TL.call hF (Play_own [_,_,_] (cells:=[1]) (cc:=1) (k:=1) (m:=2) (ps:=[(none,[],0),(some ⟨b234,0,none⟩,[(1,0)],1)]) (top:=(0,1)) hT hfs hfl (row_own (cs:=ints [1]) (e:=3) (b:=b231) (by simp [ints])) (by rfl) (by decide) ⟨row_own (cs:=[.slice none 0 0,.slice (some ⟨b234,0,none⟩) 1 1]) (e:=38) (b:=b235) (by simp),fun p hp=>by
        simp only [List.mem_cons,List.not_mem_nil,or_false] at hp
        rcases hp with rfl | rfl
        ·exact Row.none
        ·exact row_own (cs:=([(1,0)]:List Key).flatMap kC) (e:=60) (b:=b234) (by simp)⟩ (by rfl) (by decide) (by simp) (by rw [hfx]; exact kn10)) rfl rfl ?_
      rintro _ _ ⟨a30,c30,segs30,rfl,rfl⟩
      refine TL.hsub η (List.sublist_append_right _ _) ?_
      refine TL.move hF rfl rfl ?_
      refine TL.extract hF rfl rfl rfl ?_
      refine TL.extract hF rfl rfl rfl ?_
      refine TL.assign hF rfl rfl ?_
      refine TL.assign hF rfl rfl ?_
      refine TL.nil ?_
      refine TQ.then_n ?_
      refine T.seq ?_
      refine T.region ?_
      refine TL.move hF rfl rfl ?_
      refine TL.buildSlice hF rfl (cs:=#[.int .i64 1]) (e:=3) (fun w=>by kernel_rfl) rfl (fun b241=>?_)
      refine TL.callV hF (at_fn 0 1) rfl rfl ?_
      refine TL.build hF rfl (r:=kV (0,2147483648)) (fun w=>by kernel_rfl) rfl ?_
      refine TL.buildSlice hF rfl (cs:=(([(0,2147483648)]:List Key).flatMap kC).toArray) (e:=60) (fun w=>by kernel_rfl) rfl (fun b244=>?_)
      refine TL.buildSlice hF rfl (cs:=#[.slice (some ⟨b244,0,none⟩) 1 1]) (e:=38) (fun w=>by kernel_rfl) rfl (fun b245=>?_)
      refine TL.call hF (Play_own [_,_,_] (cells:=[1]) (cc:=1) (k:=1) (m:=1) (ps:=[(some ⟨b244,0,none⟩,[(0,2147483648)],1)]) (top:=(0,1)) hT hfs hfl (row_own (cs:=ints [1]) (e:=3) (b:=b241) (by simp [ints])) (by rfl) (by decide) ⟨row_own (cs:=[.slice (some ⟨b244,0,none⟩) 1 1]) (e:=38) (b:=b245) (by simp),fun p hp=>by rw [List.mem_singleton.1 hp]; exact row_own (cs:=([(0,2147483648)]:List Key).flatMap kC) (e:=60) (b:=b244) (by simp)⟩ (by rfl) (by decide) (by simp) (by rw [hfx]; exact kn11)) rfl rfl ?_
      rintro _ _ ⟨a31,c31,segs31,rfl,rfl⟩
      refine TL.hsub η (List.sublist_append_right _ _) ?_
      refine TL.move hF rfl rfl ?_
      refine TL.extract hF rfl rfl rfl ?_
      refine TL.extract hF rfl rfl rfl ?_
      refine TL.assign hF rfl rfl ?_
      refine TL.assign hF rfl rfl ?_
      refine TL.nil ?_
      refine TQ.then_n ?_
      refine T.seq ?_
      refine T.seq ?_
      refine T.region ?_
      refine TL.move hF rfl rfl ?_
      refine TL.bin hF rfl rfl rfl rfl ?_
      refine TL.move hF rfl rfl ?_
      refine TL.on rfl rfl rfl (by decide) ?_
      refine TL.move hF rfl rfl ?_
      refine TL.on rfl rfl rfl (by decide) ?_
      refine TL.bin hF rfl rfl rfl rfl ?_
      refine TL.pickF hF rfl (by decide) rfl rfl ?_
      refine TL.move hF rfl rfl ?_
      refine TL.on rfl rfl rfl (by decide) ?_
      refine TL.move hF rfl rfl ?_
      refine TL.on rfl rfl rfl (by decide) ?_
      refine TL.bin hF rfl rfl rfl rfl ?_
      refine TL.pickF hF rfl (by decide) rfl rfl ?_
      refine TL.move hF rfl rfl ?_
      refine TL.on rfl rfl rfl (by decide) ?_
      refine TL.move hF rfl rfl ?_
      refine TL.on rfl rfl rfl (by decide) ?_
      refine TL.bin hF rfl rfl rfl rfl ?_
      refine TL.pickF hF rfl (by decide) rfl rfl ?_
      refine TL.move hF rfl rfl ?_
      refine TL.on rfl rfl rfl (by decide) ?_
      refine TL.move hF rfl rfl ?_
      refine TL.on rfl rfl rfl (by decide) ?_
      refine TL.bin hF rfl rfl rfl rfl ?_
      refine TL.pickF hF rfl (by decide) rfl rfl ?_
      refine TL.move hF rfl rfl ?_
      refine TL.on rfl rfl rfl (by decide) ?_
      refine TL.move hF rfl rfl ?_
      refine TL.on rfl rfl rfl (by decide) ?_
      refine TL.bin hF rfl rfl rfl rfl ?_
      refine TL.pickF hF rfl (by decide) rfl rfl ?_
      refine TL.move hF rfl rfl ?_
      refine TL.on rfl rfl rfl (by decide) ?_
      refine TL.move hF rfl rfl ?_
      refine TL.on rfl rfl rfl (by decide) ?_
      refine TL.bin hF rfl rfl rfl rfl ?_
      refine TL.pickF hF rfl (by decide) rfl rfl ?_
      refine TL.move hF rfl rfl ?_
      refine TL.on rfl rfl rfl (by decide) ?_
      refine TL.move hF rfl rfl ?_
      refine TL.on rfl rfl rfl (by decide) ?_
      refine TL.bin hF rfl rfl rfl rfl ?_
      refine TL.pickF hF rfl (by decide) rfl rfl ?_
      refine TL.move hF rfl rfl ?_
      refine TL.on rfl rfl rfl (by decide) ?_
      refine TL.move hF rfl rfl ?_
      refine TL.on rfl rfl rfl (by decide) ?_
      refine TL.bin hF rfl rfl rfl rfl ?_
      refine TL.pickF hF rfl (by decide) rfl rfl ?_
      refine TL.move hF rfl rfl ?_
      refine TL.on rfl rfl rfl (by decide) ?_
      refine TL.move hF rfl rfl ?_
      refine TL.on rfl rfl rfl (by decide) ?_
      refine TL.bin hF rfl rfl rfl rfl ?_
      refine TL.pickF hF rfl (by decide) rfl rfl ?_
      refine TL.move hF rfl rfl ?_
      refine TL.on rfl rfl rfl (by decide) ?_
      refine TL.move hF rfl rfl ?_
      refine TL.on rfl rfl rfl (by decide) ?_
      refine TL.bin hF rfl rfl rfl rfl ?_
      refine TL.pickF hF rfl (by decide) rfl rfl ?_
      refine TL.nil ?_
      refine TQ.then_n ?_
      refine T.cond_f rfl (by decide) ?_
      refine T.skip ?_
      refine TQ.then_n ?_
      refine T.seq ?_
      refine T.region ?_
      refine TL.callV hF (of_fn) rfl rfl ?_
      refine TL.buildSlice hF rfl (cs:=(([(.nd 1 0 none 0 []:TE)]:List TE).flatMap teC).toArray) (e:=72) (fun w=>by kernel_rfl) rfl (fun d1=>?_)
      refine TL.callV hF (of_fn) rfl rfl ?_
      refine TL.callV hF (of_fn) rfl rfl ?_
      refine TL.buildSlice hF rfl (cs:=(([(.nd 0 (-1) none 0 []:TE)]:List TE).flatMap teC).toArray) (e:=72) (fun w=>by kernel_rfl) rfl (fun d4=>?_)
      refine TL.callV hF (of_fn) rfl rfl ?_
      refine TL.callV hF (of_fn) rfl rfl ?_
      refine TL.buildSlice hF rfl (cs:=(([(.nd 0 (-1) none 0 []:TE)]:List TE).flatMap teC).toArray) (e:=72) (fun w=>by kernel_rfl) rfl (fun d7=>?_)
      refine TL.callV hF (of_fn) rfl rfl ?_
      refine TL.buildSlice hF rfl (cs:=(([(.nd 2 0 (some ⟨d4,0,none⟩) 1 [(.nd 0 (-1) none 0 []:TE)]:TE),(.nd 2 0 (some ⟨d7,0,none⟩) 1 [(.nd 0 (-1) none 0 []:TE)]:TE)]:List TE).flatMap teC).toArray) (e:=72) (fun w=>by kernel_rfl) rfl (fun d9=>?_)
      refine TL.callV hF (of_fn) rfl rfl ?_
      refine TL.buildSlice hF rfl (cs:=(([(.nd 6 0 (some ⟨d1,0,none⟩) 1 [(.nd 1 0 none 0 []:TE)]:TE),(.nd 3 2 (some ⟨d9,0,none⟩) 2 [(.nd 2 0 (some ⟨d4,0,none⟩) 1 [(.nd 0 (-1) none 0 []:TE)]:TE),(.nd 2 0 (some ⟨d7,0,none⟩) 1 [(.nd 0 (-1) none 0 []:TE)]:TE)]:TE)]:List TE).flatMap teC).toArray) (e:=72) (fun w=>by kernel_rfl) rfl (fun d11=>?_)
      refine TL.callV hF (of_fn) rfl rfl ?_
      refine TL.buildSlice hF rfl (cs:=(([(.nd 3 0 (some ⟨d11,0,none⟩) 2 [(.nd 6 0 (some ⟨d1,0,none⟩) 1 [(.nd 1 0 none 0 []:TE)]:TE),(.nd 3 2 (some ⟨d9,0,none⟩) 2 [(.nd 2 0 (some ⟨d4,0,none⟩) 1 [(.nd 0 (-1) none 0 []:TE)]:TE),(.nd 2 0 (some ⟨d7,0,none⟩) 1 [(.nd 0 (-1) none 0 []:TE)]:TE)]:TE)]:TE)]:List TE).flatMap teC).toArray) (e:=72) (fun w=>by kernel_rfl) rfl (fun d13=>?_)
      refine TL.assign hF rfl rfl ?_
      refine TL.nil ?_
      refine TQ.then_n ?_
      refine T.seq ?_
      refine T.region ?_
      have hw1:Tr S3 w3 [[(d13,Obj.cells (([(.nd 3 0 (some ⟨d11,0,none⟩) 2 [(.nd 6 0 (some ⟨d1,0,none⟩) 1 [(.nd 1 0 none 0 []:TE)]:TE),(.nd 3 2 (some ⟨d9,0,none⟩) 2 [(.nd 2 0 (some ⟨d4,0,none⟩) 1 [(.nd 0 (-1) none 0 []:TE)]:TE),(.nd 2 0 (some ⟨d7,0,none⟩) 1 [(.nd 0 (-1) none 0 []:TE)]:TE)]:TE)]:TE)]:List TE).flatMap teC).toArray 72 (0,0))],[(d11,Obj.cells (([(.nd 6 0 (some ⟨d1,0,none⟩) 1 [(.nd 1 0 none 0 []:TE)]:TE),(.nd 3 2 (some ⟨d9,0,none⟩) 2 [(.nd 2 0 (some ⟨d4,0,none⟩) 1 [(.nd 0 (-1) none 0 []:TE)]:TE),(.nd 2 0 (some ⟨d7,0,none⟩) 1 [(.nd 0 (-1) none 0 []:TE)]:TE)]:TE)]:List TE).flatMap teC).toArray 72 (0,0))],[(d9,Obj.cells (([(.nd 2 0 (some ⟨d4,0,none⟩) 1 [(.nd 0 (-1) none 0 []:TE)]:TE),(.nd 2 0 (some ⟨d7,0,none⟩) 1 [(.nd 0 (-1) none 0 []:TE)]:TE)]:List TE).flatMap teC).toArray 72 (0,0))],[(d7,Obj.cells (([(.nd 0 (-1) none 0 []:TE)]:List TE).flatMap teC).toArray 72 (0,0))],[(d4,Obj.cells (([(.nd 0 (-1) none 0 []:TE)]:List TE).flatMap teC).toArray 72 (0,0))],[(d1,Obj.cells (([(.nd 1 0 none 0 []:TE)]:List TE).flatMap teC).toArray 72 (0,0))]] (.nd 6 0 (some ⟨d1,0,none⟩) 1 [(.nd 1 0 none 0 []:TE)]:TE):=tr_own (by simp) (Nat.le_refl _) (by simp) fun y hy=>by
       rw [List.mem_singleton.1 hy]; exact leaf_tr
      have hw4:Tr S3 w3 [[(d13,Obj.cells (([(.nd 3 0 (some ⟨d11,0,none⟩) 2 [(.nd 6 0 (some ⟨d1,0,none⟩) 1 [(.nd 1 0 none 0 []:TE)]:TE),(.nd 3 2 (some ⟨d9,0,none⟩) 2 [(.nd 2 0 (some ⟨d4,0,none⟩) 1 [(.nd 0 (-1) none 0 []:TE)]:TE),(.nd 2 0 (some ⟨d7,0,none⟩) 1 [(.nd 0 (-1) none 0 []:TE)]:TE)]:TE)]:TE)]:List TE).flatMap teC).toArray 72 (0,0))],[(d11,Obj.cells (([(.nd 6 0 (some ⟨d1,0,none⟩) 1 [(.nd 1 0 none 0 []:TE)]:TE),(.nd 3 2 (some ⟨d9,0,none⟩) 2 [(.nd 2 0 (some ⟨d4,0,none⟩) 1 [(.nd 0 (-1) none 0 []:TE)]:TE),(.nd 2 0 (some ⟨d7,0,none⟩) 1 [(.nd 0 (-1) none 0 []:TE)]:TE)]:TE)]:List TE).flatMap teC).toArray 72 (0,0))],[(d9,Obj.cells (([(.nd 2 0 (some ⟨d4,0,none⟩) 1 [(.nd 0 (-1) none 0 []:TE)]:TE),(.nd 2 0 (some ⟨d7,0,none⟩) 1 [(.nd 0 (-1) none 0 []:TE)]:TE)]:List TE).flatMap teC).toArray 72 (0,0))],[(d7,Obj.cells (([(.nd 0 (-1) none 0 []:TE)]:List TE).flatMap teC).toArray 72 (0,0))],[(d4,Obj.cells (([(.nd 0 (-1) none 0 []:TE)]:List TE).flatMap teC).toArray 72 (0,0))],[(d1,Obj.cells (([(.nd 1 0 none 0 []:TE)]:List TE).flatMap teC).toArray 72 (0,0))]] (.nd 2 0 (some ⟨d4,0,none⟩) 1 [(.nd 0 (-1) none 0 []:TE)]:TE):=tr_own (by simp) (Nat.le_refl _) (by simp) fun y hy=>by
       rw [List.mem_singleton.1 hy]; exact leaf_tr
      have hw7:Tr S3 w3 [[(d13,Obj.cells (([(.nd 3 0 (some ⟨d11,0,none⟩) 2 [(.nd 6 0 (some ⟨d1,0,none⟩) 1 [(.nd 1 0 none 0 []:TE)]:TE),(.nd 3 2 (some ⟨d9,0,none⟩) 2 [(.nd 2 0 (some ⟨d4,0,none⟩) 1 [(.nd 0 (-1) none 0 []:TE)]:TE),(.nd 2 0 (some ⟨d7,0,none⟩) 1 [(.nd 0 (-1) none 0 []:TE)]:TE)]:TE)]:TE)]:List TE).flatMap teC).toArray 72 (0,0))],[(d11,Obj.cells (([(.nd 6 0 (some ⟨d1,0,none⟩) 1 [(.nd 1 0 none 0 []:TE)]:TE),(.nd 3 2 (some ⟨d9,0,none⟩) 2 [(.nd 2 0 (some ⟨d4,0,none⟩) 1 [(.nd 0 (-1) none 0 []:TE)]:TE),(.nd 2 0 (some ⟨d7,0,none⟩) 1 [(.nd 0 (-1) none 0 []:TE)]:TE)]:TE)]:List TE).flatMap teC).toArray 72 (0,0))],[(d9,Obj.cells (([(.nd 2 0 (some ⟨d4,0,none⟩) 1 [(.nd 0 (-1) none 0 []:TE)]:TE),(.nd 2 0 (some ⟨d7,0,none⟩) 1 [(.nd 0 (-1) none 0 []:TE)]:TE)]:List TE).flatMap teC).toArray 72 (0,0))],[(d7,Obj.cells (([(.nd 0 (-1) none 0 []:TE)]:List TE).flatMap teC).toArray 72 (0,0))],[(d4,Obj.cells (([(.nd 0 (-1) none 0 []:TE)]:List TE).flatMap teC).toArray 72 (0,0))],[(d1,Obj.cells (([(.nd 1 0 none 0 []:TE)]:List TE).flatMap teC).toArray 72 (0,0))]] (.nd 2 0 (some ⟨d7,0,none⟩) 1 [(.nd 0 (-1) none 0 []:TE)]:TE):=tr_own (by simp) (Nat.le_refl _) (by simp) fun y hy=>by
       rw [List.mem_singleton.1 hy]; exact leaf_tr
      have hw9:Tr S3 w3 [[(d13,Obj.cells (([(.nd 3 0 (some ⟨d11,0,none⟩) 2 [(.nd 6 0 (some ⟨d1,0,none⟩) 1 [(.nd 1 0 none 0 []:TE)]:TE),(.nd 3 2 (some ⟨d9,0,none⟩) 2 [(.nd 2 0 (some ⟨d4,0,none⟩) 1 [(.nd 0 (-1) none 0 []:TE)]:TE),(.nd 2 0 (some ⟨d7,0,none⟩) 1 [(.nd 0 (-1) none 0 []:TE)]:TE)]:TE)]:TE)]:List TE).flatMap teC).toArray 72 (0,0))],[(d11,Obj.cells (([(.nd 6 0 (some ⟨d1,0,none⟩) 1 [(.nd 1 0 none 0 []:TE)]:TE),(.nd 3 2 (some ⟨d9,0,none⟩) 2 [(.nd 2 0 (some ⟨d4,0,none⟩) 1 [(.nd 0 (-1) none 0 []:TE)]:TE),(.nd 2 0 (some ⟨d7,0,none⟩) 1 [(.nd 0 (-1) none 0 []:TE)]:TE)]:TE)]:List TE).flatMap teC).toArray 72 (0,0))],[(d9,Obj.cells (([(.nd 2 0 (some ⟨d4,0,none⟩) 1 [(.nd 0 (-1) none 0 []:TE)]:TE),(.nd 2 0 (some ⟨d7,0,none⟩) 1 [(.nd 0 (-1) none 0 []:TE)]:TE)]:List TE).flatMap teC).toArray 72 (0,0))],[(d7,Obj.cells (([(.nd 0 (-1) none 0 []:TE)]:List TE).flatMap teC).toArray 72 (0,0))],[(d4,Obj.cells (([(.nd 0 (-1) none 0 []:TE)]:List TE).flatMap teC).toArray 72 (0,0))],[(d1,Obj.cells (([(.nd 1 0 none 0 []:TE)]:List TE).flatMap teC).toArray 72 (0,0))]] (.nd 3 2 (some ⟨d9,0,none⟩) 2 [(.nd 2 0 (some ⟨d4,0,none⟩) 1 [(.nd 0 (-1) none 0 []:TE)]:TE),(.nd 2 0 (some ⟨d7,0,none⟩) 1 [(.nd 0 (-1) none 0 []:TE)]:TE)]:TE):=tr_own (by simp) (Nat.le_refl _) (by simp) fun y hy=>by
       simp only [List.mem_cons,List.not_mem_nil,or_false] at hy
       rcases hy with rfl | rfl
       ·exact hw4
       ·exact hw7
      have hw11:Tr S3 w3 [[(d13,Obj.cells (([(.nd 3 0 (some ⟨d11,0,none⟩) 2 [(.nd 6 0 (some ⟨d1,0,none⟩) 1 [(.nd 1 0 none 0 []:TE)]:TE),(.nd 3 2 (some ⟨d9,0,none⟩) 2 [(.nd 2 0 (some ⟨d4,0,none⟩) 1 [(.nd 0 (-1) none 0 []:TE)]:TE),(.nd 2 0 (some ⟨d7,0,none⟩) 1 [(.nd 0 (-1) none 0 []:TE)]:TE)]:TE)]:TE)]:List TE).flatMap teC).toArray 72 (0,0))],[(d11,Obj.cells (([(.nd 6 0 (some ⟨d1,0,none⟩) 1 [(.nd 1 0 none 0 []:TE)]:TE),(.nd 3 2 (some ⟨d9,0,none⟩) 2 [(.nd 2 0 (some ⟨d4,0,none⟩) 1 [(.nd 0 (-1) none 0 []:TE)]:TE),(.nd 2 0 (some ⟨d7,0,none⟩) 1 [(.nd 0 (-1) none 0 []:TE)]:TE)]:TE)]:List TE).flatMap teC).toArray 72 (0,0))],[(d9,Obj.cells (([(.nd 2 0 (some ⟨d4,0,none⟩) 1 [(.nd 0 (-1) none 0 []:TE)]:TE),(.nd 2 0 (some ⟨d7,0,none⟩) 1 [(.nd 0 (-1) none 0 []:TE)]:TE)]:List TE).flatMap teC).toArray 72 (0,0))],[(d7,Obj.cells (([(.nd 0 (-1) none 0 []:TE)]:List TE).flatMap teC).toArray 72 (0,0))],[(d4,Obj.cells (([(.nd 0 (-1) none 0 []:TE)]:List TE).flatMap teC).toArray 72 (0,0))],[(d1,Obj.cells (([(.nd 1 0 none 0 []:TE)]:List TE).flatMap teC).toArray 72 (0,0))]] (.nd 3 0 (some ⟨d11,0,none⟩) 2 [(.nd 6 0 (some ⟨d1,0,none⟩) 1 [(.nd 1 0 none 0 []:TE)]:TE),(.nd 3 2 (some ⟨d9,0,none⟩) 2 [(.nd 2 0 (some ⟨d4,0,none⟩) 1 [(.nd 0 (-1) none 0 []:TE)]:TE),(.nd 2 0 (some ⟨d7,0,none⟩) 1 [(.nd 0 (-1) none 0 []:TE)]:TE)]:TE)]:TE):=tr_own (by simp) (Nat.le_refl _) (by simp) fun y hy=>by
       simp only [List.mem_cons,List.not_mem_nil,or_false] at hy
       rcases hy with rfl | rfl
       ·exact hw1
       ·exact hw9
      have hwf:Fs S3 w3 [[(d13,Obj.cells (([(.nd 3 0 (some ⟨d11,0,none⟩) 2 [(.nd 6 0 (some ⟨d1,0,none⟩) 1 [(.nd 1 0 none 0 []:TE)]:TE),(.nd 3 2 (some ⟨d9,0,none⟩) 2 [(.nd 2 0 (some ⟨d4,0,none⟩) 1 [(.nd 0 (-1) none 0 []:TE)]:TE),(.nd 2 0 (some ⟨d7,0,none⟩) 1 [(.nd 0 (-1) none 0 []:TE)]:TE)]:TE)]:TE)]:List TE).flatMap teC).toArray 72 (0,0))],[(d11,Obj.cells (([(.nd 6 0 (some ⟨d1,0,none⟩) 1 [(.nd 1 0 none 0 []:TE)]:TE),(.nd 3 2 (some ⟨d9,0,none⟩) 2 [(.nd 2 0 (some ⟨d4,0,none⟩) 1 [(.nd 0 (-1) none 0 []:TE)]:TE),(.nd 2 0 (some ⟨d7,0,none⟩) 1 [(.nd 0 (-1) none 0 []:TE)]:TE)]:TE)]:List TE).flatMap teC).toArray 72 (0,0))],[(d9,Obj.cells (([(.nd 2 0 (some ⟨d4,0,none⟩) 1 [(.nd 0 (-1) none 0 []:TE)]:TE),(.nd 2 0 (some ⟨d7,0,none⟩) 1 [(.nd 0 (-1) none 0 []:TE)]:TE)]:List TE).flatMap teC).toArray 72 (0,0))],[(d7,Obj.cells (([(.nd 0 (-1) none 0 []:TE)]:List TE).flatMap teC).toArray 72 (0,0))],[(d4,Obj.cells (([(.nd 0 (-1) none 0 []:TE)]:List TE).flatMap teC).toArray 72 (0,0))],[(d1,Obj.cells (([(.nd 1 0 none 0 []:TE)]:List TE).flatMap teC).toArray 72 (0,0))]] (some ⟨d13,0,none⟩) [(.nd 3 0 (some ⟨d11,0,none⟩) 2 [(.nd 6 0 (some ⟨d1,0,none⟩) 1 [(.nd 1 0 none 0 []:TE)]:TE),(.nd 3 2 (some ⟨d9,0,none⟩) 2 [(.nd 2 0 (some ⟨d4,0,none⟩) 1 [(.nd 0 (-1) none 0 []:TE)]:TE),(.nd 2 0 (some ⟨d7,0,none⟩) 1 [(.nd 0 (-1) none 0 []:TE)]:TE)]:TE)]:TE)]:=⟨row_own (e:=72) (by simp),fun y hy=>by rw [List.mem_singleton.1 hy]; exact hw11⟩
      refine TL.freeze ([[(d13,Obj.cells (([(.nd 3 0 (some ⟨d11,0,none⟩) 2 [(.nd 6 0 (some ⟨d1,0,none⟩) 1 [(.nd 1 0 none 0 []:TE)]:TE),(.nd 3 2 (some ⟨d9,0,none⟩) 2 [(.nd 2 0 (some ⟨d4,0,none⟩) 1 [(.nd 0 (-1) none 0 []:TE)]:TE),(.nd 2 0 (some ⟨d7,0,none⟩) 1 [(.nd 0 (-1) none 0 []:TE)]:TE)]:TE)]:TE)]:List TE).flatMap teC).toArray 72 (0,0))],[(d11,Obj.cells (([(.nd 6 0 (some ⟨d1,0,none⟩) 1 [(.nd 1 0 none 0 []:TE)]:TE),(.nd 3 2 (some ⟨d9,0,none⟩) 2 [(.nd 2 0 (some ⟨d4,0,none⟩) 1 [(.nd 0 (-1) none 0 []:TE)]:TE),(.nd 2 0 (some ⟨d7,0,none⟩) 1 [(.nd 0 (-1) none 0 []:TE)]:TE)]:TE)]:List TE).flatMap teC).toArray 72 (0,0))],[(d9,Obj.cells (([(.nd 2 0 (some ⟨d4,0,none⟩) 1 [(.nd 0 (-1) none 0 []:TE)]:TE),(.nd 2 0 (some ⟨d7,0,none⟩) 1 [(.nd 0 (-1) none 0 []:TE)]:TE)]:List TE).flatMap teC).toArray 72 (0,0))],[(d7,Obj.cells (([(.nd 0 (-1) none 0 []:TE)]:List TE).flatMap teC).toArray 72 (0,0))],[(d4,Obj.cells (([(.nd 0 (-1) none 0 []:TE)]:List TE).flatMap teC).toArray 72 (0,0))],[(d1,Obj.cells (([(.nd 1 0 none 0 []:TE)]:List TE).flatMap teC).toArray 72 (0,0))]]) rfl (fun S4 w4 hz4=>?_)
      replace hb:=hb.frz hz4
      replace hT:=hT.old hz4
      replace htr2:=htr2.old hz4
      replace hxr2:=hxr2.old hz4
      replace ht2:=ht2.old hz4
      replace hx2:=hx2.old hz4
      replace hfs:=hfs.old hz4
      replace hwf:=hwf.frz hz4
      refine TL.move hF rfl rfl ?_
      refine TL.buildSlice hF rfl (cs:=#[.int .i64 5,.int .i64 7]) (e:=3) (fun w=>by kernel_rfl) rfl (fun b307=>?_)
      have h307:Row S4 w4 [[(b307,Obj.cells #[.int .i64 5,.int .i64 7] 3 (0,0))]] (some ⟨b307,0,none⟩) (ints [5,7]):=row_own (cs:=[.int .i64 5,.int .i64 7]) (e:=3) (by simp)
      refine TL.freeze ([[(b307,Obj.cells #[.int .i64 5,.int .i64 7] 3 (0,0))]]) rfl (fun S5 w5 hz5=>?_)
      replace hb:=hb.frz hz5
      replace hT:=hT.old hz5
      replace htr2:=htr2.old hz5
      replace hxr2:=hxr2.old hz5
      replace ht2:=ht2.old hz5
      replace hx2:=hx2.old hz5
      replace hfs:=hfs.old hz5
      replace hwf:=hwf.old hz5
      replace h307:=h307.frz hz5
      refine TL.callV hF (at_fn 0 200) rfl rfl ?_
      refine TL.call hF (Run_fn (fl:=[(.nd 3 0 (some ⟨d11,0,none⟩) 2 [(.nd 6 0 (some ⟨d1,0,none⟩) 1 [(.nd 1 0 none 0 []:TE)]:TE),(.nd 3 2 (some ⟨d9,0,none⟩) 2 [(.nd 2 0 (some ⟨d4,0,none⟩) 1 [(.nd 0 (-1) none 0 []:TE)]:TE),(.nd 2 0 (some ⟨d7,0,none⟩) 1 [(.nd 0 (-1) none 0 []:TE)]:TE)]:TE)]:TE)]) (fc:=1) (cells:=[5,7]) (cc:=2) (top:=(0,200)) hT hwf (by simp) h307 (by decide)) rfl rfl ?_
      rintro _ _ ⟨a39,c39,l39,segs,rfl,hn39,hl39,hc39,rfl⟩
      have e39:runE ([(.nd 3 0 (some ⟨d11,0,none⟩) 2 [(.nd 6 0 (some ⟨d1,0,none⟩) 1 [(.nd 1 0 none 0 []:TE)]:TE),(.nd 3 2 (some ⟨d9,0,none⟩) 2 [(.nd 2 0 (some ⟨d4,0,none⟩) 1 [(.nd 0 (-1) none 0 []:TE)]:TE),(.nd 2 0 (some ⟨d7,0,none⟩) 1 [(.nd 0 (-1) none 0 []:TE)]:TE)]:TE)]:TE)].map TE.ex) [5,7] (0,200)=([⟨(0,200),49,[cellD 1 7,cellD 1 7]⟩],0):=wild_ok
      replace hn39:=run_lit hn39 e39
      rw [e39]
      refine TL.freeze (segs) rfl (fun S6 w6 hz6=>?_)
      replace hb:=hb.frz hz6
      replace hT:=hT.old hz6
      replace htr2:=htr2.old hz6
      replace hxr2:=hxr2.old hz6
      replace ht2:=ht2.old hz6
      replace hx2:=hx2.old hz6
      replace hfs:=hfs.old hz6
      replace hwf:=hwf.old hz6
      replace h307:=h307.old hz6
      replace hl39:=hl39.frz hz6
      refine TL.move hF rfl rfl ?_
      refine TL.extract hF rfl rfl rfl ?_
      refine TL.extract hF rfl rfl rfl ?_
      refine TL.assign hF rfl rfl ?_
      refine TL.assign hF rfl rfl ?_
      refine TL.nil ?_
      refine TQ.then_n ?_
      refine T.seq ?_
      refine T.region ?_
      refine TL.move hF rfl rfl ?_
      refine TL.buildSlice hF rfl (cs:=#[.int .i64 1]) (e:=3) (fun w=>by kernel_rfl) rfl (fun b314=>?_)
      refine TL.callV hF (at_fn 0 1) rfl rfl ?_
      refine TL.call hF (Play_own [_] (cells:=[1]) (cc:=1) (k:=1) (m:=0) (rc:=0) (ps:=[]) (top:=(0,1)) hT hfs hfl (row_own (cs:=ints [1]) (e:=3) (b:=b314) (by simp [ints])) (by rfl) (by decide) ⟨Row.none,fun p hp=>by cases hp⟩ (by rfl) (by decide) (by simp) (by rw [hfx]; exact kn12)) rfl rfl ?_
      rintro _ _ ⟨a36,c36,segs36,rfl,rfl⟩
      refine TL.hsub η (List.sublist_append_right _ _) ?_
      refine TL.move hF rfl rfl ?_
      refine TL.extract hF rfl rfl rfl ?_
      refine TL.extract hF rfl rfl rfl ?_
      refine TL.assign hF rfl rfl ?_
      refine TL.assign hF rfl rfl ?_
      refine TL.nil ?_
      refine TQ.then_n ?_
      refine T.seq ?_
      refine T.region ?_
      refine TL.move hF rfl rfl ?_
      refine TL.buildSlice hF rfl (cs:=#[.int .i64 1]) (e:=3) (fun w=>by kernel_rfl) rfl (fun b321=>?_)
      have h321:Row S6 w6 [[(b321,Obj.cells #[.int .i64 1] 3 (0,0))]] (some ⟨b321,0,none⟩) (ints [1]):=row_own (cs:=[.int .i64 1]) (e:=3) (by simp)
      refine TL.freeze ([[(b321,Obj.cells #[.int .i64 1] 3 (0,0))]]) rfl (fun S7 w7 hz7=>?_)
      replace hb:=hb.frz hz7
      replace hT:=hT.old hz7
      replace htr2:=htr2.old hz7
      replace hxr2:=hxr2.old hz7
      replace ht2:=ht2.old hz7
      replace hx2:=hx2.old hz7
      replace hfs:=hfs.old hz7
      replace hl39:=hl39.old hz7
      replace h321:=h321.frz hz7
      refine TL.callV hF (at_fn 0 200) rfl rfl ?_
      obtain ⟨TD,hrun,htl,nx,hnx,hnw⟩:=deep_ok
      refine TL.call hF (Run_fn (cells:=[1]) (cc:=1) (top:=(0,200)) hT hfs hfl h321 (by decide)) rfl rfl ?_
      rintro _ _ ⟨a41,c41,l41,segs,rfl,hn41,hl41,hc41,rfl⟩
      have e41:runE (fl.map TE.ex) [1] (0,200)=(TD,0):=by rw [hfx]; exact hrun
      replace hn41:=run_lit hn41 e41
      rw [e41]
      have hl201:l41.length=201:=by rw [← nds_len,hn41,htl]
      have hw200:l41[200].nd.word=200:=by
       have h9:(nds l41)[200]?=some nx:=by rw [hn41]; exact hnx
       unfold nds at h9
       rw [List.getElem?_map,List.getElem?_eq_getElem (by omega),Option.map_some,Option.some.injEq] at h9
       rw [h9]; exact hnw
      refine TL.freeze (segs) rfl (fun S8 w8 hz8=>?_)
      replace hb:=hb.frz hz8
      replace hT:=hT.old hz8
      replace htr2:=htr2.old hz8
      replace hxr2:=hxr2.old hz8
      replace ht2:=ht2.old hz8
      replace hx2:=hx2.old hz8
      replace hfs:=hfs.old hz8
      replace hl39:=hl39.old hz8
      replace h321:=h321.old hz8
      replace hl41:=hl41.frz hz8
      refine TL.move hF rfl rfl ?_
      refine TL.extract hF rfl rfl rfl ?_
      refine TL.extract hF rfl rfl rfl ?_
      refine TL.assign hF rfl rfl ?_
      refine TL.assign hF rfl rfl ?_
      refine TL.nil ?_
      refine TQ.then_n ?_
      refine T.seq ?_
      refine T.seq ?_
      refine T.region ?_
      refine TL.move hF rfl rfl ?_
      refine TL.bin hF rfl rfl rfl rfl ?_
      refine TL.move hF rfl rfl ?_
      refine TL.on rfl rfl rfl (by simp) ?_
      refine TL.move hF rfl rfl ?_
      refine TL.on rfl rfl rfl (by simp) ?_
      refine TL.bin hF rfl rfl rfl rfl ?_
      refine TL.pickF hF rfl (by simp) rfl rfl ?_
      refine TL.move hF rfl rfl ?_
      refine TL.on rfl rfl rfl (by simp) ?_
      refine TL.move hF rfl rfl ?_
      refine TL.on rfl rfl rfl (by simp) ?_
      refine TL.bin hF rfl rfl rfl rfl ?_
      refine TL.pickF hF rfl (by simp) rfl rfl ?_
      refine TL.move hF rfl rfl ?_
      refine TL.on rfl rfl rfl (by simp) ?_
      refine TL.move hF rfl rfl ?_
      refine TL.on rfl rfl rfl (by simp) ?_
      refine TL.len hF rfl rfl ?_
      refine TL.on rfl rfl rfl (by simp) ?_
      refine TL.bin hF rfl rfl rfl rfl ?_
      refine TL.pickF hF rfl (by simp) rfl rfl ?_
      refine TL.move hF rfl rfl ?_
      refine TL.on rfl rfl rfl (by simp) ?_
      refine TL.move hF rfl rfl ?_
      refine TL.on rfl rfl rfl (by simp) ?_
      refine TL.len hF rfl rfl ?_
      refine TL.on rfl rfl rfl (by simp) ?_
      refine TL.bin hF rfl rfl rfl rfl ?_
      refine TL.pickF hF rfl (by simp) rfl rfl ?_
      refine TL.nil ?_
      refine TQ.then_n ?_
      refine T.cond_f rfl (by rw [hl201]; rfl) ?_
      refine T.skip ?_
      refine TQ.then_n ?_
      refine T.seq ?_
      refine T.region ?_
      refine TL.move hF rfl rfl ?_
      refine TL.callV hF (at_fn 0 200) rfl rfl ?_
      refine TL.callV hF (cell_fn 1 7) rfl rfl ?_
      refine TL.callV hF (cell_fn 1 7) rfl rfl ?_
      refine TL.buildSlice hF rfl (cs:=(([cellD 1 7,cellD 1 7]:List Dp).flatMap dpC).toArray) (e:=56) (fun w=>by kernel_rfl) rfl (fun b350=>?_)
      refine TL.build hF rfl (r:=.agg (nhC ⟨⟨(0,200),49,[cellD 1 7,cellD 1 7]⟩,some ⟨b350,0,none⟩,2⟩).toArray) (fun w=>by kernel_rfl) rfl ?_
      refine TL.buildSlice hF rfl (cs:=(([⟨⟨(0,200),49,[cellD 1 7,cellD 1 7]⟩,some ⟨b350,0,none⟩,2⟩]:List NH).flatMap nhC).toArray) (e:=43) (fun w=>by kernel_rfl) rfl (fun b352=>?_)
      have hw:NL S8 w8 ([(b352,Obj.cells (([⟨⟨(0,200),49,[cellD 1 7,cellD 1 7]⟩,some ⟨b350,0,none⟩,2⟩]:List NH).flatMap nhC).toArray 43 (0,0))]::[(b350,Obj.cells (([cellD 1 7,cellD 1 7]:List Dp).flatMap dpC).toArray 56 (0,0))]::η) (some ⟨b352,0,none⟩) [⟨⟨(0,200),49,[cellD 1 7,cellD 1 7]⟩,some ⟨b350,0,none⟩,2⟩]:=⟨row_own (e:=43) (by simp),fun y hy=>by
       rw [List.mem_singleton.1 hy]
       exact ⟨row_own (e:=56) (by simp),Nat.le_refl _,(show 2<4294967296 by decide)⟩⟩
      refine TL.callV hF (nodesL_true (ca:=c39) (cb:=1) hl39.ro hw (by rw [← nds_len,hn39]; decide) hn39) rfl rfl ?_
      refine TL.move hF rfl rfl ?_
      refine TL.on rfl rfl rfl rfl ?_
      refine TL.move hF rfl rfl ?_
      refine TL.on rfl rfl rfl rfl ?_
      refine TL.indexAddr hF rfl rfl (hl41.ad (i:=200) (by omega)) (by omega) (by omega) rfl ?_
      refine TL.on rfl rfl rfl rfl ?_
      refine TL.fieldAddr hF rfl rfl ?_
      refine TL.on rfl rfl rfl rfl ?_
      refine TL.load hF rfl (show At _ _ _ _ (.int .i64 200) by have h9:=fun ηx=>(hl41.ro (η':=ηx)).wordAt (i:=200) (by omega); simp only [hw200] at h9; exact h9 _) rfl ?_
      refine TL.on rfl rfl rfl rfl ?_
      refine TL.bin hF rfl rfl rfl rfl ?_
      refine TL.pickT hF rfl rfl rfl rfl ?_
      refine TL.move hF rfl rfl ?_
      refine TL.pickT hF rfl (by rfl) rfl rfl ?_
      refine TL.move hF rfl rfl ?_
      refine TL.on rfl rfl rfl (by rfl) ?_
      refine TL.call hF (traced_law hT) rfl rfl ?_
      rintro _ _ rfl
      refine TL.pickT hF rfl (by rfl) rfl rfl ?_
      refine TL.assign hF rfl rfl ?_
      refine TL.nil ?_
      refine TQ.then_n ?_
      refine T.ret ?_
      exact TQ.retsF [0] _ hb rfl rfl rfl (fun _=>rfl)
end Go.Proofs.YtdiacobmhkmljaaDoor
namespace Go.Proofs.YtdiacobmhkmljaaDoor
open Go.Sl Go.ChangeShapes Go.WideShapes Go.ChangeAt Go.RowKit
set_option maxRecDepth 100000 in
theorem traceKnown_lifted (os : Os) (started : os.Started) (H : Type) (enc : TypeId × Value → H) :
    ReturnsInHanded {} Tryd.checked os 8 .any (fun w args=>(Rows.traceKnownSpec.pre enc Tryd.prog Tryd.f8 [] false w args∧laidMetH Tryd.prog laidL w)∧sizedMet enc Tryd.prog Tryd.f8 (OpenSpec.ofChange Rows.traceKnownSpec) false w args)
      (Rows.traceKnownSpec.post enc Tryd.prog Tryd.f8 false true false false):=by
  refine returnsInHanded_of_change_and (C:=Tryd.checked) (X:=fun w _=>laidMetH Tryd.prog laidL w) (fun _ _ _ hh h=>h.of_heap hh) Tryd.own started (by kernel_rfl) Tryd.func8
    (ChangeSpec.witness_shaped (enc:=enc) (C:=Tryd.checked) (os:=os) (X:=fun w _=>laidMetH Tryd.prog laidL w) false (World.doorLaid Tryd.prog 2000 os) #[] 8 rfl (World.shaped_of_RefB (by kernel_rfl) (by kernel_rfl)) (by kernel_rfl) (by kernel_rfl) (by kernel_rfl) (door_met os _)) ?_
  intro W base args ds gs before hval0 hW _ hwt hL _
  have hval':∀ (j:Nat) t v,Tryd.f8.params[j]?=some t→args[j]?=some v→Value.okWide Tryd.prog W .any base t v:=hval0
  have hW':=hW
  obtain ⟨p,q,hA0,hV,rfl,hfz,hnd⟩:=hW
  have hA:DataW.TrodAll enc Tryd.prog W 0 (fun _=>true) true [] args.toList ds p:=hA0
  obtain ⟨ha,rfl,rfl⟩:=trodAll_nil hA
  obtain rfl:args = #[]:=by cases args; simpa using ha
  refine (calls_true (TraceKnown_fn (tabs_of_laid hL))).mono fun e W' ⟨he,hw⟩=>⟨_,he,?_⟩
  exact law_post (f:=Tryd.f8) Tryd.laidOut rfl 4 rfl u4 hW' rfl (by decide +kernel) hw
theorem traceKnown_said:Rows.TraceKnownSaid :=
  OpenClaim.holds_of_wide 8 Tryd.f8 rfl rfl rfl rfl rfl rfl rfl ⟨rfl,rfl,rfl,rfl,rfl⟩ rfl rfl rfl rfl rfl (by kernel_rfl) Tryd.func8 (by kernel_rfl)
    (of_decide_eq_true (by kernel_rfl)) (by unfold Func.isWrapper; first | (rw [if_pos (by decide +kernel)]; kernel_rfl) | (rw [if_neg (by decide +kernel)]; exact ⟨rfl,rfl⟩))
    (fun os started H enc _=>traceKnown_lifted os started H enc)
theorem traceKnown_holds:Rows.TraceKnownCardSaid :=
  Claim7.holds_tied_plain_at .later [] [.funcs, .data] true (true, "9424b675a5bf1259037b7c80c1e1d1308b039b71f1eedf5d2444196735f82e90") false
    traceKnown_said (fun _ h=>by cases h) (by kernel_rfl) (fun _ h=>by cases h) traceKnown_row_tie rfl ⟨rfl,rfl⟩ (by kernel_rfl) rfl
    (fun f fn hf hfn=>by
      obtain rfl : f = 8 := Option.some.inj ((show Tryd.prog.funcNamed "deltaworks/deltaworkslaw24.TraceKnown" = some 8 by kernel_rfl).symm.trans hf) |>.symm
      obtain rfl:fn=Tryd.f8:=(Option.some.inj (Tryd.func8.symm.trans hfn)).symm
      exact ⟨by kernel_rfl,fun j t ht=>by
        have ht2:(#[]:Array TypeId)[j]?=some t:=ht
        have hm:t∈([]:List TypeId):=by simpa using Array.mem_of_getElem? ht2
        have hall:(([]:List TypeId).all fun u=>!Tryd.prog.wantsStandIn u)=true:=by kernel_rfl
        exact (show Tryd.prog.wantsStandIn t=false by simpa using List.all_eq_true.1 hall t hm)⟩)
    (by kernel_rfl)
#print axioms traceKnown_holds
end Go.Proofs.YtdiacobmhkmljaaDoor
