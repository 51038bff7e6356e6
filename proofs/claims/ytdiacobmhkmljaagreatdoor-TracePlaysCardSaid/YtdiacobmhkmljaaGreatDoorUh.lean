/- Several texts in one. -/
import Derived.Test.YtdiacobmhkmljaaGreatDoorUc
import Derived.Test.YtdiacobmhkmljaaGreatDoorUb
import Derived.Test.YtdiacobmhkmljaaGreatDoorRows
import Derived.LaidMore
import Derived.OpenShut
import Derived.Deep.Strs
import Derived.Stop.Joined
import Derived.Test.YtdiacobmhkmljaaGreatDoorUf
/- Expressions, as arguments: read as deep as they go. -/
namespace Go.Proofs.YtdiacobmhkmljaaGreatDoor
open Go.Sl Go.ChangeShapes Go.WideShapes Go.ChangeAt Go.Deep Go.RowKit
section
variable {P:Program} {H:Type} {enc:TypeId × Value→H} {W:World}
/-- A slice that is read: its cells, and what each element reads as. -/
theorem slice_readF {t e : TypeId} (ht : P.underlying t = some (.slice e)) (hc : 0 < P.cellsOf e) {fuel : Nat} {v : Value} {x : DataW H × List MemPlace} (h : DataW.trod enc P W 0 (fun _ => true) true fuel t [v] = some x) :
    ∃ (a:Option Addr) (len cap n:Nat) (cs:List Value),fuel=n+1∧v = .slice a len cap∧len≤cap∧cap≤maxLen∧cs.length=len*P.cellsOf e∧Row (Old W) W [] a cs ∧
      ∀ i,i<len→∃ y,DataW.trod enc P W 0 (fun _=>true) true n e ((cs.drop (i*P.cellsOf e)).take (P.cellsOf e))=some y:=by
  obtain ⟨m0,hm0⟩:∃ m0,fuel=m0+1:=by
    cases fuel with
    | zero=>simp [DataW.trod] at h
    | succ m0=>exact ⟨m0,rfl⟩
  rcases DataW.trod_slice ht h with ⟨hv,_⟩ | ⟨a,len,cap,elems,rest,n,hfu,hcs,_,_,hl,hm,hel0,hel,_⟩
  · have:v = .slice none 0 0:=by simpa using hv
    subst this
    exact ⟨none,0,0,m0,[],hm0,rfl,Nat.le_refl _,Nat.zero_le _,by simp,⟨fun h=>by simp at h,fun i v h=>by simp at h⟩,fun i hi=>by omega⟩
  · have:v = .slice (some a) len cap:=by simpa using hcs
    subst this
    have hx:∀ i,i<len→∃ cs',W.cells? 0 (a.add (i*P.cellsOf e)) (P.cellsOf e)=some cs'∧∃ y,DataW.trod enc P W 0 (fun _=>true) true n e cs'=some y:=fun i h=>by
      have h1:=hel i h
      rw [List.getElem?_eq_getElem (by omega),Option.bind_eq_some_iff] at h1
      obtain ⟨cs',h2,h3⟩:=h1
      exact ⟨cs',h2,_,h3⟩
    obtain ⟨C,hC⟩:=choose_lt (α:=List Value) hx
    have hlen:∀ i,i<len→(C i).length=P.cellsOf e:=fun i h=>(World.cells?_some (hC i h).1).2.1
    have hcell:∀ i j,i<len→j<P.cellsOf e→W.cell? (a.add (i*P.cellsOf e+j))=(C i)[j]?:=fun i j h1 h2=>by
      have:=(World.cells?_some (hC i h1).1).2.2 j h2
      rwa [Go.Deep.add_add] at this
    let f:Nat→List Value:=fun i=>if i<len then C i else List.replicate (P.cellsOf e) undef
    have hf:∀ i,(f i).length=P.cellsOf e:=fun i=>by
      simp only [f]; split
      · exact hlen i (by assumption)
      · simp
    have hget:∀ i j,i<len→j<P.cellsOf e→((List.range len).flatMap f)[i*P.cellsOf e+j]?=(C i)[j]?:=fun i j h1 h2=>by
      rw [flat_get _ f hf _ i j h2]
      simp [h1,f]
    have htot:((List.range len).flatMap f).length=len*P.cellsOf e:=by
      rw [List.length_flatMap]
      have:(List.range len).map (fun i=>(f i).length)=List.replicate len (P.cellsOf e):=by
        apply List.ext_getElem
        · simp
        · intro i h1 h2; simp [hf]
      rw [this,List.sum_replicate_nat]
    have hsp:0<len→a.spot=none∧a.block<W.heap.size:=fun h0=>by
      have h1:=hcell 0 0 h0 hc
      have h2:(C 0)[0]?=some ((C 0)[0]'(by rw [hlen 0 h0]; exact hc)):=List.getElem?_eq_getElem _
      rw [h2] at h1
      have h3:=cell_lt h1
      simpa [Addr.add] using h3.symm
    have hadd:a.spot=none→∀ k,a.add k=sAt (some a) k:=fun hs k=>by
      obtain ⟨b,o,s⟩:=a
      simp only at hs; subst hs
      unfold Addr.add sAt; split
      · rename_i h; simp [h]
      · rfl
    refine ⟨some a,len,cap,n,(List.range len).flatMap f,hfu,rfl,hl,hm,htot,⟨fun h0=>?_,fun k v hk=>?_⟩,fun i hil=>?_⟩
    · rw [htot] at h0
      exact ⟨a,rfl,(hsp (Nat.pos_of_mul_pos_right h0)).1⟩
    · have hkl:=(List.getElem?_eq_some_iff.1 hk).1
      rw [htot] at hkl
      have h1:k / P.cellsOf e<len:=by rw [Nat.div_lt_iff_lt_mul hc]; exact hkl
      have h2:k % P.cellsOf e<P.cellsOf e:=Nat.mod_lt _ hc
      have h3:k / P.cellsOf e*P.cellsOf e+k % P.cellsOf e=k:=Nat.div_add_mod' k (P.cellsOf e)
      have h4:=hget _ _ h1 h2
      rw [h3,hk] at h4
      have h5:=hcell _ _ h1 h2
      rw [h3,← h4] at h5
      obtain ⟨hs,hbl⟩:=hsp (Nat.lt_of_le_of_lt (Nat.zero_le _) h1)
      rw [hadd hs] at h5
      exact .rd hbl h5
    · have e1:(((List.range len).flatMap f).drop (i*P.cellsOf e)).take (P.cellsOf e)=C i:=by
        apply List.ext_getElem?
        intro j
        rw [List.getElem?_take]
        by_cases hj:j<P.cellsOf e
        · rw [if_pos hj,List.getElem?_drop,hget i j hil hj]
        · rw [if_neg hj,List.getElem?_eq_none (by rw [hlen i hil]; omega)]
      rw [e1]; exact (hC i hil).2
end
section
variable {H:Type} {enc:TypeId × Value→H} {W:World}
theorem u3:Tryz.prog.underlying 3=some (.int .i64):=by kernel_rfl
theorem u22:Tryz.prog.underlying 22=some (.slice 87):=by kernel_rfl
theorem k3:Tryz.prog.cellsOf 3=1:=by kernel_rfl
theorem k22:Tryz.prog.cellsOf 22=1:=by kernel_rfl
theorem k87:Tryz.prog.cellsOf 87=3:=by kernel_rfl
theorem list3 {l:List Value} (h:l.length=3):∃ a b c,l=[a,b,c]:=by
  match l,h with
  | [a,b,c],_=>exact ⟨a,b,c,rfl⟩
theorem exp_read:∀ (fuel:Nat) {cs:List Value} {y:DataW H × List MemPlace},DataW.trod enc Tryz.prog W 0 (fun _=>true) true fuel 87 cs=some y→∃ e:TE,cs=teC e∧Tr (Old W) W [] e:=by
  intro fuel
  induction fuel using Nat.strongRecOn with
  | ind fuel ih =>
    intro cs y h
    obtain ⟨g0,g1,g2,hu,t0,t1,t2,o0,o1,o2⟩:∃ g0 g1 g2:Field,Tryz.prog.underlying 87=some (.struct #[g0,g1,g2])∧g0.type=3∧g1.type=3∧g2.type=22∧g0.offset=0∧g1.offset=1∧g2.offset=2:=by
      rw [show Tryz.prog.underlying 87=Tryz.prog.underlying 86 from by kernel_rfl,Tryz.underlying86]
      exact ⟨_,_,_,rfl,rfl,rfl,rfl,rfl,rfl,rfl⟩
    obtain ⟨xs,n,hfu,_,hl,hlen,hf⟩:=DataW.trod_struct hu h
    rw [k87] at hl
    have hl3:xs.length=3:=hlen
    obtain ⟨c0,c1,c2,rfl⟩:=list3 hl
    have h0:=hf 0 g0 rfl
    have h1:=hf 1 g1 rfl
    have h2:=hf 2 g2 rfl
    rw [List.getElem?_eq_getElem (by omega)] at h0 h1 h2
    rw [t0,o0,k3] at h0
    rw [t1,o1,k3] at h1
    rw [t2,o2,k22] at h2
    simp only [List.drop_zero,List.take_succ_cons,List.take_zero,List.drop_succ_cons] at h0 h1 h2
    obtain ⟨z0,e0,_,_⟩:=DataW.trod_int u3 h0
    obtain ⟨z1,e1,_,_⟩:=DataW.trod_int u3 h1
    obtain ⟨a,len,cap,m,cs2,hfu2,e2,hlc,hm,hlen2,hrow,hel⟩:=slice_readF u22 (by rw [k87]; omega) h2
    rw [k87] at hlen2 hel
    obtain ⟨l,h5,h6,h7⟩:=list_read (c:=3) (Q:=fun e:TE=>Tr (Old W) W [] e) teC hlen2 (fun i hi=>by
      obtain ⟨q,hq⟩:=hel i hi
      exact ih m (by omega) hq)
    refine ⟨.nd z0 z1 a cap l,?_,tr_iff.2 ⟨⟨by show Row (Old W) W [] a (l.flatMap teC); rw [← h6]; exact hrow,by show l.length≤cap; omega,?_⟩,h7⟩⟩
    · simp only [List.cons.injEq,and_true] at e0 e1
      rw [e0,e1,e2]
      show _=[Value.int .i64 z0,Value.int .i64 z1,Value.slice a l.length cap]
      rw [h5]
    · show l.length<_
      unfold maxLen at hm; omega
theorem exps_read {fuel : Nat} {v : Value} {y : DataW H × List MemPlace} (h : DataW.trod enc Tryz.prog W 0 (fun _ => true) true fuel 22 [v] = some y) :
    ∃ (a:Option Addr) (l:List TE) (cap:Nat),v = .slice a l.length cap∧Fs (Old W) W [] a l∧l.length<9223372036854775808:=by
  obtain ⟨a,len,cap,m,cs2,_,e2,hlc,hm,hlen2,hrow,hel⟩:=slice_readF u22 (by rw [k87]; omega) h
  rw [k87] at hlen2 hel
  obtain ⟨l,h5,h6,h7⟩:=list_read (c:=3) (Q:=fun e:TE=>Tr (Old W) W [] e) teC hlen2 (fun i hi=>by
    obtain ⟨q,hq⟩:=hel i hi
    exact exp_read m hq)
  exact ⟨a,l,cap,by rw [e2,h5],⟨by rw [← h6]; exact hrow,h7⟩,by unfold maxLen at hm; omega⟩
end
end Go.Proofs.YtdiacobmhkmljaaGreatDoor
/- What the arguments of the laws of the second seat hold; the tables that the program's start lays. -/
namespace Go.Proofs.YtdiacobmhkmljaaGreatDoor
open Go.Sl Go.ChangeShapes Go.WideShapes Go.ChangeAt Go.Deep Go.RowKit
section
variable {H:Type} {enc:TypeId × Value→H} {W:World}
theorem list1 {l:List Value} (h:l.length=1):∃ a,l=[a]:=by
  match l,h with
  | [a],_=>exact ⟨a,rfl⟩
theorem u4:Tryz.prog.underlying 4=some .bool:=by kernel_rfl
theorem uIs:Tryz.prog.underlying 23=some (.slice 3):=by kernel_rfl
theorem u7i:Tryz.prog.underlying 122=some (.array 7 3):=by kernel_rfl
theorem u10f:Tryz.prog.underlying 135=some (.array 10 134):=by kernel_rfl
theorem k2f:Tryz.prog.cellsOf 134=1:=by kernel_rfl
theorem ints_arg {fuel : Nat} {v : Value} {y : DataW H × List MemPlace} (h : DataW.trod enc Tryz.prog W 0 (fun _ => true) true fuel 23 [v] = some y) :
    ∃ (a:Option Addr) (l:List Int) (cap:Nat),v = .slice a l.length cap∧Row (Old W) W [] a (ints l)∧l.length<9223372036854775808:=by
  obtain ⟨a,xs,c,e2,hm,hrow,_⟩:=ints_read uIs u3 k3 h
  exact ⟨a,xs,c,e2,hrow,by unfold maxLen at hm; omega⟩
end
theorem Tryz.own:ownKnob Tryz.prog.godebug=none:=by kernel_rfl
theorem Tryz.laidOut:laidOutB Tryz.prog=true:=by kernel_rfl
theorem gParts : Tryz.prog.globalNamed "deltaworks/trace.parts" = some 0 := by kernel_rfl
theorem tParts:(Tryz.prog.globals[0]?).map (·.type)=some 122:=by kernel_rfl
theorem gWords : Tryz.prog.globalNamed "deltaworks/trace.words" = some 1 := by kernel_rfl
theorem tWords:(Tryz.prog.globals[1]?).map (·.type)=some 135:=by kernel_rfl
abbrev laidL : List (String × DataW Unit) := [("deltaworks/trace.words", Rows.laid_deltaworks_trace_words), ("deltaworks/trace.parts", Rows.laid_deltaworks_trace_parts)]
theorem door_met (os:Os) (args:Array Value):laidMetH Tryz.prog laidL ((World.doorLaid Tryz.prog 2000 os).forCall (fun _ _=>0) ⟨#[],args,[]⟩).memory :=
  laidMetH_of_parts3 (fuel:=8) (laidMet_of_run' 8 (by kernel_rfl) (by kernel_rfl)) (by kernel_rfl) (by kernel_rfl)
theorem op_read {W : World} {m f0 : Nat} {cs : List Value} {y : DataW (List UInt8) × List MemPlace} {c : UInt8} {r : List UInt8} (hone : ((List.range Tryz.prog.funcs.size).filter fun f => (Tryz.prog.funcs[f]?).any (·.name.toUTF8.data.toList == c :: r)) = [f0])
    (hl:cs.length=1) (h:DataW.trod (funcToken Tryz.prog) Tryz.prog W 0 (fun _=>true) true m 134 cs=some y) (hy:y.1 = .held (c::r)):cs=[.func (.func f0) #[] #[]]:=by
  obtain ⟨c0,rfl⟩:=list1 hl
  obtain ⟨d2,q2⟩:=y
  simp only at hy
  subst hy
  rw [Go.func_of_trod Tryz.underlying134 hone h]
theorem parts_of_laid {W:World} (h:laidMetH Tryz.prog laidL W):∀ o:Nat,o<7→At (Old W) W [] ⟨0,o,none⟩ (.int .i64 (partsS o)):=by
  have hp : laidMet Tryz.prog [("deltaworks/trace.parts", Rows.laid_deltaworks_trace_parts)] W := (show laidMet Tryz.prog _ W ∧ handlesMet Tryz.prog _ W from h).1
  obtain ⟨ps,⟨g,t,cs,f1,p1,q1,hg,ht,hv,hd,_,_⟩,_,_⟩:=hp
  obtain rfl:=Option.some.inj (gParts.symm.trans hg)
  obtain rfl:=Option.some.inj (tParts.symm.trans ht)
  obtain ⟨xs,m,rfl,hx1,hlen,hn,hel⟩:=DataW.trod_array u7i hd
  rw [k3] at hel
  simp only [Prod.mk.injEq,Rows.laid_deltaworks_trace_parts,DataW.agg.injEq] at hx1
  obtain ⟨hx,_⟩:=hx1
  match xs,hn,hx,hel with
  | [x0,x1,x2,x3,x4,x5,x6],_,hx,hel =>
    simp only [List.map_cons,List.map_nil,List.cons.injEq,and_true] at hx
    obtain ⟨q0,q1,q2,q3,q4,q5,q6⟩:=hx
    have rd:∀ {i:Nat} {x:DataW Unit × List MemPlace} {z:Int},DataW.trod (fun _=>()) Tryz.prog W 0 (fun _=>true) false m 3 ((cs.toList.drop (i*1)).take 1)=some x → .lit (.int .i64 z)=x.1→(cs.toList.drop (i*1)).take 1=[.int .i64 z]:=by
      intro i x z h1 h2
      obtain ⟨n,e1,e2,_⟩:=DataW.trod_int u3 h1
      rw [e2] at h2
      simp only [DataW.lit.injEq,Lit.int.injEq,true_and] at h2
      rw [e1,h2]
    intro o ho
    have key:(cs.toList.drop (o*1)).take 1=[.int .i64 (partsS o)]:=by
      have:o=0∨o=1∨o=2∨o=3∨o=4∨o=5∨o=6:=by omega
      rcases this with rfl | rfl | rfl | rfl | rfl | rfl | rfl
      · exact rd (hel 0 (by decide)) q0
      · exact rd (hel 1 (by decide)) q1
      · exact rd (hel 2 (by decide)) q2
      · exact rd (hel 3 (by decide)) q3
      · exact rd (hel 4 (by decide)) q4
      · exact rd (hel 5 (by decide)) q5
      · exact rd (hel 6 (by decide)) q6
    have hcell:W.cell? ⟨0,o,none⟩=some (.int .i64 (partsS o)):=by
      have h2:((cs.toList.drop (o*1)).take 1)[0]?=some (.int .i64 (partsS o)):=by rw [key]; rfl
      rw [List.getElem?_take,if_pos (by decide),List.getElem?_drop] at h2
      have:=World.var?_cell hg hv o
      rw [this,← Array.getElem?_toList]
      simpa using h2
    exact .rd (cell_lt hcell).1 hcell
theorem words_of_laid {W:World} (h:laidMetH Tryz.prog laidL W):∀ o:Nat,o<10→At (Old W) W [] ⟨1,o,none⟩ (opV o):=by
  obtain ⟨g, t, cs, fuel, p, hg, ht, hv, hd⟩ := h.funcs (n := "deltaworks/trace.words") (List.mem_cons_self ..)
  obtain rfl:=Option.some.inj (gWords.symm.trans hg)
  obtain rfl:=Option.some.inj (tWords.symm.trans ht)
  obtain ⟨xs,m,rfl,hx1,hlen,hn,hel⟩:=DataW.trod_array u10f hd
  have hlen:cs.toList.length=10:=hlen.trans (by kernel_rfl)
  rw [k2f] at hel
  simp only [Prod.mk.injEq,DataW.funcsOut,DataW.funcsOutAll,DataW.agg.injEq] at hx1
  obtain ⟨hx,_⟩:=hx1
  match xs,hn,hx,hel with
  | [x0,x1,x2,x3,x4,x5,x6,x7,x8,x9],_,hx,hel =>
    simp only [List.map_cons,List.map_nil,List.cons.injEq,and_true] at hx
    obtain ⟨q0,q1,q2,q3,q4,q5,q6,q7,q8,q9⟩:=hx
    have ln:∀ i,i<10→((cs.toList.drop (i*1)).take 1).length=1:=by
      intro i hi
      rw [List.length_take,List.length_drop,hlen]; omega
    intro o ho
    have key:(cs.toList.drop (o*1)).take 1=[opV o]:=by
      rcases ten ho with rfl | rfl | rfl | rfl | rfl | rfl | rfl | rfl | rfl | rfl
      · exact op_read (f0:=126) (by kernel_rfl) (ln 0 (by decide)) (hel 0 (by decide)) q0.symm
      · exact op_read (f0:=130) (by kernel_rfl) (ln 1 (by decide)) (hel 1 (by decide)) q1.symm
      · exact op_read (f0:=131) (by kernel_rfl) (ln 2 (by decide)) (hel 2 (by decide)) q2.symm
      · exact op_read (f0:=132) (by kernel_rfl) (ln 3 (by decide)) (hel 3 (by decide)) q3.symm
      · exact op_read (f0:=133) (by kernel_rfl) (ln 4 (by decide)) (hel 4 (by decide)) q4.symm
      · exact op_read (f0:=134) (by kernel_rfl) (ln 5 (by decide)) (hel 5 (by decide)) q5.symm
      · exact op_read (f0:=135) (by kernel_rfl) (ln 6 (by decide)) (hel 6 (by decide)) q6.symm
      · exact op_read (f0:=136) (by kernel_rfl) (ln 7 (by decide)) (hel 7 (by decide)) q7.symm
      · exact op_read (f0:=137) (by kernel_rfl) (ln 8 (by decide)) (hel 8 (by decide)) q8.symm
      · exact op_read (f0:=138) (by kernel_rfl) (ln 9 (by decide)) (hel 9 (by decide)) q9.symm
    have hcell:W.cell? ⟨1,o,none⟩=some (opV o):=by
      have h2:((cs.toList.drop (o*1)).take 1)[0]?=some (opV o):=by rw [key]; rfl
      rw [List.getElem?_take,if_pos (by decide),List.getElem?_drop] at h2
      have:=World.var?_cell hg hv o
      rw [this,← Array.getElem?_toList]
      simpa using h2
    exact .rd (cell_lt hcell).1 hcell
theorem tabs_of_laid {W:World} (h:laidMetH Tryz.prog laidL W):Tabs (Old W) W:=⟨parts_of_laid h,words_of_laid h⟩
section
variable {H:Type} {enc:TypeId × Value→H} {W:World}
theorem u25:∃ g0 g1:Field,Tryz.prog.underlying 25=some (.struct #[g0,g1])∧g0.type=3∧g1.type=3∧g0.offset=0∧g1.offset=1:=by
  rw [show Tryz.prog.underlying 25=Tryz.prog.underlying 24 from by kernel_rfl,Tryz.underlying24]
  exact ⟨_,_,rfl,rfl,rfl,rfl,rfl⟩
theorem u60:∃ g0 g1:Field,Tryz.prog.underlying 60=some (.struct #[g0,g1])∧g0.type=3∧g1.type=3∧g0.offset=0∧g1.offset=1:=by
  rw [show Tryz.prog.underlying 60=Tryz.prog.underlying 59 from by kernel_rfl,Tryz.underlying59]
  exact ⟨_,_,rfl,rfl,rfl,rfl,rfl⟩
theorem u61:Tryz.prog.underlying 61=some (.slice 60):=by kernel_rfl
theorem u38:Tryz.prog.underlying 38=some (.slice 61):=by kernel_rfl
theorem k25:Tryz.prog.cellsOf 25=2:=by kernel_rfl
theorem k60:Tryz.prog.cellsOf 60=2:=by kernel_rfl
theorem k61:Tryz.prog.cellsOf 61=1:=by kernel_rfl
theorem list2 {l:List Value} (h:l.length=2):∃ a b,l=[a,b]:=by
  match l,h with
  | [a,b],_=>exact ⟨a,b,rfl⟩
theorem pair_read {t:TypeId} (hu:∃ g0 g1:Field,Tryz.prog.underlying t=some (.struct #[g0,g1])∧g0.type=3∧g1.type=3∧g0.offset=0∧g1.offset=1) (hk:Tryz.prog.cellsOf t=2) {fuel:Nat} {cs:List Value} {y:DataW H × List MemPlace} (h:DataW.trod enc Tryz.prog W 0 (fun _=>true) true fuel t cs=some y):∃ k:Key,cs=kC k:=by
  obtain ⟨g0,g1,hu,t0,t1,o0,o1⟩:=hu
  obtain ⟨xs,n,_,_,hl,hlen,hf⟩:=DataW.trod_struct hu h
  rw [hk] at hl
  have hl3:xs.length=2:=hlen
  obtain ⟨c0,c1,rfl⟩:=list2 hl
  have h0:=hf 0 g0 rfl
  have h1:=hf 1 g1 rfl
  rw [List.getElem?_eq_getElem (by omega)] at h0 h1
  rw [t0,o0,k3] at h0
  rw [t1,o1,k3] at h1
  simp only [List.drop_zero,List.take_succ_cons,List.take_zero,List.drop_succ_cons] at h0 h1
  obtain ⟨z0,e0,_,_⟩:=DataW.trod_int u3 h0
  obtain ⟨z1,e1,_,_⟩:=DataW.trod_int u3 h1
  simp only [List.cons.injEq,and_true] at e0 e1
  exact ⟨(z0,z1),by rw [e0,e1]; rfl⟩
theorem edits_read {fuel : Nat} {v : Value} {y : DataW H × List MemPlace} (h : DataW.trod enc Tryz.prog W 0 (fun _ => true) true fuel 61 [v] = some y) :
    ∃ (a:Option Addr) (l:List (Int × Int)) (cap:Nat),v = .slice a l.length cap∧Row (Old W) W [] a (l.flatMap kC)∧l.length<9223372036854775808:=by
  obtain ⟨a,len,cap,m,cs2,e2,hlc,hm,hlen2,hrow,hel⟩:=slice_read u61 (by rw [k60]; omega) h
  rw [k60] at hlen2 hel
  obtain ⟨l,h5,h6,_⟩:=list_read (c:=2) (Q:=fun _:Key=>True) kC hlen2 (fun i hi=>by
    obtain ⟨q,hq⟩:=hel i hi
    obtain ⟨k,hk⟩:=pair_read u60 k60 hq
    exact ⟨k,hk,trivial⟩)
  exact ⟨a,l,cap,by rw [h5]; exact e2,by rw [← h6]; exact hrow,by unfold maxLen at hm; omega⟩
theorem ghc_flat (l:List EH):l.flatMap (fun p=>[ghc p])=l.map ghc:=by
  induction l with
  | nil=>rfl
  | cons x r ih=>rw [List.flatMap_cons,ih]; rfl
theorem rounds_read {fuel : Nat} {v : Value} {y : DataW H × List MemPlace} (h : DataW.trod enc Tryz.prog W 0 (fun _ => true) true fuel 38 [v] = some y) :
    ∃ (a:Option Addr) (ps:List EH) (cap:Nat),v = .slice a ps.length cap∧GL kC (Old W) W [] a ps∧ps.length<9223372036854775808∧∀ p∈ps,p.2.1.length<9223372036854775808:=by
  obtain ⟨a,len,cap,m,cs2,e2,hlc,hm,hlen2,hrow,hel⟩:=slice_read u38 (by rw [k61]; omega) h
  rw [k61] at hlen2 hel
  obtain ⟨l,h5,h6,h7⟩:=list_read (c:=1) (Q:=fun p:EH=>Row (Old W) W [] p.1 (p.2.1.flatMap kC)∧p.2.1.length<9223372036854775808) (fun p=>[ghc p]) hlen2 (fun i hi=>by
    obtain ⟨q,hq⟩:=hel i hi
    obtain ⟨u,hu⟩:=list1 (l:=(cs2.drop (i*1)).take 1) (by rw [List.length_take,List.length_drop,hlen2]; omega)
    rw [hu] at hq ⊢
    obtain ⟨a',l',c',e',hr',hl'⟩:=edits_read hq
    exact ⟨(a',l',c'),by rw [e']; rfl,hr',hl'⟩)
  exact ⟨a,l,cap,by rw [h5]; exact e2,⟨by rw [← ghc_flat,← h6]; exact hrow,fun p hp=>(h7 p hp).1⟩,by unfold maxLen at hm; omega,fun p hp=>(h7 p hp).2⟩
end
end Go.Proofs.YtdiacobmhkmljaaGreatDoor
/- A call as an argument. -/
namespace Go.Proofs.YtdiacobmhkmljaaGreatDoor
open Go.Sl Go.ChangeShapes Go.WideShapes Go.ChangeAt Go.Deep Go.RowKit
set_option maxRecDepth 100000
section
variable {H:Type} {enc:TypeId × Value→H} {W:World} {base:Nat}
theorem key_open {v:Value} {d:DataW H} {ps:List MemPlace} (hval:Value.okWide Tryz.prog W .any base 25 v) (h:DataW.Trod enc Tryz.prog W 0 (fun _=>true) true 25 v d ps):∃ k:Key,v=kV k:=by
  obtain ⟨g0,g1,hu,t0,t1,o0,o1⟩:=u25
  obtain ⟨cs,rfl,_⟩:=okWide_struct hu hval
  obtain ⟨fuel,hf⟩:=h
  obtain ⟨k,hk⟩:=pair_read ⟨g0,g1,hu,t0,t1,o0,o1⟩ k25 hf
  refine ⟨k,?_⟩
  have:cs.toList=kC k:=hk
  rw [show cs=(kC k).toArray by rw [← this]]
  rfl
end
end Go.Proofs.YtdiacobmhkmljaaGreatDoor
