/- The theorem of the traces, for every input. No condition. -/
import Derived.Test.YtdiacobmhkmljaaDoorTf
import Derived.Test.YtdiacobmhkmljaaDoorCards
import Derived.Test.YtdiacobmhkmljaaDoorTie
/- The theorem of the traces, walked. -/
namespace Go.Proofs.YtdiacobmhkmljaaDoor
open Go.Sl
variable {S : Nat → Prop} {w0 : World} {η : Heap}
theorem edited_fn' {ca la : Option Addr} {cells : List Int} {l : List (Int × Int)} {cc lc : Nat} (hc : Row S w0 η ca (ints cells)) (h1 : 1 ≤ cells.length) (h2 : cells.length ≤ 100) (hl : Row S w0 [] la (l.flatMap kC)) (hll : l.length < 9223372036854775808) (hok : ∀ x ∈ l, okEdit cells.length x = true) :
  Rt Tryd.prog 13 [.slice ca cells.length cc, .slice la l.length lc].toArray S w0 η (fun v η' => ∃ a c seg, v = .slice a (editS cells l).length c ∧ OSl 3 1 (.slice a (editS cells l).length c) (editS cells l).length (ints (editS cells l)) seg ∧ η' = seg :: η) := by
 refine (edited_fn (lc := lc) (cc := cc) hc h1 h2 hl hll hok).mono fun v η' h => ?_
 obtain ⟨a, c, seg, h1, h2, h3⟩ := h
 exact ⟨a, c, seg, by rw [editS_len]; exact h1, by rw [editS_len]; exact h2, h3⟩
theorem NL.thaw {S' : Nat → Prop} {w1 : World} {ηr η' : Heap} {a : Option Addr} {l : List NH} (hb : ∀ η' a v, At S' w1 η' a v → At S w0 (ηr ++ η') a v) (h : NL S' w1 η' a l) : NL S w0 (ηr ++ η') a l := h.map fun _ _ hr => hr.thaw hb
/-- The cells behind so many rounds. -/
def cAt (cells : List Int) (rs : List (List (Int × Int))) (i : Nat) : List Int := (rs.take i).foldl editS cells
theorem cAt_succ {cells : List Int} {rs : List (List (Int × Int))} {i : Nat} (h : i < rs.length) : cAt cells rs (i + 1) = editS (cAt cells rs i) rs[i] := by
 unfold cAt; rw [List.take_succ_eq_append_getElem h, List.foldl_append]; rfl
theorem cAt_len (cells : List Int) (rs : List (List (Int × Int))) (i : Nat) : (cAt cells rs i).length = cells.length := by
 unfold cAt
 generalize rs.take i = l
 induction l generalizing cells with
 | nil => rfl
 | cons r l ih => rw [List.foldl_cons, ih, editS_len]
theorem rounds_at {F : List Ex} {top : Key} : ∀ {rs : List (List (Int × Int))} {cells : List Int} {i : Nat} (_h : i < rs.length), (roundsS F top rs cells (traceS F cells top))[i]? = some (againstS (traceS F (cAt cells rs i) top) (traceS F (cAt cells rs (i + 1)) top) (callsS F (cAt cells rs (i + 1)) top).2)
 | r :: rs, cells, 0, _ => rfl
 | r :: rs, cells, i + 1, h => by
  rw [roundsS, List.getElem?_cons_succ, rounds_at (by simpa using h)]
  rfl
theorem rounds_len {F : List Ex} {top : Key} : ∀ (rs : List (List (Int × Int))) (cells : List Int) (old : List Nd), (roundsS F top rs cells old).length = rs.length
 | [], _, _ => rfl
 | r :: rs, cells, old => by rw [roundsS, List.length_cons, List.length_cons, rounds_len]
/-- What is known of what numbers made. -/
theorem play_made {F : List Ex} {cells : List Int} {top : Key} {ps : List EH} (h : askedS F cells top = 0) (h6 : ps.length ≤ 6) (hr : ∀ p ∈ ps, RndOk cells.length p.2.1) : playS F cells top (erounds ps) = (roundsS F top (erounds ps) cells (traceS F cells top), 0) := by
 unfold playS
 rw [if_pos h, long_no (by omega) (fun p hp => by have := (hr p hp).1; omega), edits_yes (fun p hp => (hr p hp).2)]; rfl
theorem run_made {F : List Ex} {cells : List Int} {top : Key} (h : askedS F cells top = 0) : runE F cells top = (traceS F cells top, 0) := by unfold runE; rw [if_pos h]
theorem asked_cAt {F : List Ex} {cells : List Int} {top : Key} {ps : List EH} (h : askedS F cells top = 0) (hr : ∀ p ∈ ps, RndOk cells.length p.2.1) : ∀ i, i ≤ ps.length → askedS F (cAt cells (erounds ps) i) top = 0
 | 0, _ => h
 | i + 1, hi => by
  have hil : i < (erounds ps).length := by simp [erounds]; omega
  rw [cAt_succ hil]
  refine asked_edit (asked_cAt h hr i (by omega)) fun x hx => ?_
  have hx2 : x ∈ ps[i].2.1 := by simpa [erounds] using hx
  exact (okEdit_iff.1 ((hr ps[i] (List.getElem_mem (by omega))).2 x hx2)).2.2
theorem tra_of {F : List Ex} {cells : List Int} {top : Key} (h : askedS F cells top = 0) : Tra F cells top (traceS F cells top) ∧ (callsS F cells top).2 = V F cells top ∧ (traceS F cells top).length ≤ 1608 := by
 obtain ⟨hs, k1, k2, k3, k4⟩ := scn_of h
 obtain ⟨hg, h2, h3⟩ := calls_ok (cells := cells) hs.right k1 k2 k3 (by omega)
 refine ⟨h3, h2, ?_⟩
 have := good_len hs hg
 unfold traceS; rw [sort_len hg.nd]; exact this
structure SS where
 i : Nat
 cur : List Int
 ca : Option Addr
 cc : Nat
 old : List NH
 oa : Option Addr
 oc : Nat
 H : Heap
set_option maxHeartbeats 8000000 in
theorem TraceScratch_fn {a b : Option Addr} {by' l : List Int} {c d : Nat} (hT : Tabs S w0) (hby : Row S w0 [] a (ints by')) (hbyl : by'.length < 9223372036854775808) (hbyb : ∀ x ∈ by', I64 x) (hl : Row S w0 [] b (ints l)) (hll : l.length < 9223372036854775808) (hlb : ∀ x ∈ l, I64 x) :
  Rt Tryd.prog 3 [.slice a by'.length c, .slice b l.length d].toArray S w0 η (fun v _ => v = .bool true) := by
 have hF := open_wide
 refine Rt.of (fn := Tryd.f3) Tryd.func3 rfl rfl ?_
 refine T.seq ?_
 refine T.region ?_
 refine TL.assign hF rfl rfl ?_
 refine TL.nil ?_
 refine TQ.then_n ?_
 refine T.seq ?_
 refine T.region ?_
 refine TL.move hF rfl rfl ?_
 have hb := Back.refl S w0
 refine TL.call hF (Made_fn hby hbyl hbyb) rfl rfl ?_
 rintro _ _ ⟨fa, fc, fl, ca, cc, cells, top, segs, rfl, hfs, hcs, hask, hc8, rfl⟩
 obtain ⟨hsc, hk⟩ := scn_of hask
 have hfl : fl.length < 9223372036854775808 := by have := hsc.many; rw [List.length_map] at this; omega
 refine TL.freeze (segs) rfl (fun S1 w1 hz1 => ?_)
 replace hb := hb.frz hz1
 replace hT := hT.old hz1
 replace hl := hl.old hz1
 replace hfs := hfs.frz hz1
 replace hcs := hcs.frz hz1
 refine TL.move hF rfl rfl ?_
 refine TL.extract hF rfl rfl rfl ?_
 refine TL.extract hF rfl rfl rfl ?_
 refine TL.extract hF rfl rfl rfl ?_
 refine TL.alloc hF rfl (fun b7 => ?_)
 refine TL.assign hF rfl rfl ?_
 refine TL.assign hF rfl rfl ?_
 refine TL.storeAs hF (kC top) (kC top) 0 (cs := [.int .i64 0, .int .i64 0]) rfl rfl rfl rfl (kC1 _) (Nat.le_refl 2) rfl ?_
 refine TL.nil ?_
 refine TQ.then_n ?_
 refine T.seq ?_
 refine T.region ?_
 refine TL.move hF rfl rfl ?_
 refine TL.move hF rfl rfl ?_
 refine TL.len hF rfl rfl ?_
 have hc1 := hsc.c1
 refine TL.call hF (edits_fn (m := cells.length) hl hll hlb hc1 (by omega)) rfl rfl ?_
 rintro _ _ ⟨ra, rc, ps, segs, rfl, hgl, hp6, hrk, hrc, rfl⟩
 refine TL.freeze (segs) rfl (fun S2 w2 hz2 => ?_)
 replace hb := hb.frz hz2
 replace hT := hT.old hz2
 replace hl := hl.old hz2
 replace hfs := hfs.old hz2
 replace hcs := hcs.old hz2
 replace hgl := hgl.frz hz2
 refine TL.assign hF rfl rfl ?_
 refine TL.nil ?_
 refine TQ.then_n ?_
 refine T.seq ?_
 refine T.region ?_
 refine TL.move hF rfl rfl ?_
 refine TL.move hF rfl rfl ?_
 refine TL.loadA hF (kC top) rfl rfl (own_list (i := 0) (cs := kC top) rfl) rfl ?_
 refine TL.move hF rfl rfl ?_
 refine TL.call hF (Play_fn (top := top) (cells := cells) (cc := cc) (ps := ps) hT hfs hfl hcs (by omega) hgl (by omega) (fun p hp => by have := (hrk p hp).1; omega)) rfl rfl ?_
 rintro _ _ ⟨aa, ac, la, segs, rfl, hlr, hla, hlac, rfl⟩
 have hpm := play_made hask hp6 hrk
 rw [hpm] at hlr ⊢
 dsimp only at hlr
 have hlal : la.length = ps.length := by have := congrArg List.length hlr; rw [List.length_map, rounds_len] at this; simpa [erounds] using this
 refine TL.freeze (segs) rfl (fun S3 w3 hz3 => ?_)
 replace hb := hb.frz hz3
 replace hT := hT.old hz3
 replace hl := hl.old hz3
 replace hfs := hfs.old hz3
 replace hcs := hcs.old hz3
 replace hgl := hgl.old hz3
 replace hla := hla.frz hz3
 refine TL.move hF rfl rfl ?_
 refine TL.extract hF rfl rfl rfl ?_
 refine TL.extract hF rfl rfl rfl ?_
 refine TL.assign hF rfl rfl ?_
 refine TL.assign hF rfl rfl ?_
 refine TL.nil ?_
 refine TQ.then_n ?_
 refine T.seq ?_
 refine T.region ?_
 refine TL.move hF rfl rfl ?_
 refine TL.move hF rfl rfl ?_
 refine TL.loadA hF (kC top) rfl rfl (own_list (i := 0) (cs := kC top) rfl) rfl ?_
 refine TL.call hF (Run_fn (top := top) (cells := cells) (cc := cc) hT hfs hfl hcs (by omega)) rfl rfl ?_
 rintro _ _ ⟨oa, oc, lo, segs, rfl, hlo, hlon, hloc, rfl⟩
 rw [run_made hask] at hlo ⊢
 dsimp only at hlo
 refine TL.move hF rfl rfl ?_
 refine TL.extract hF rfl rfl rfl ?_
 refine TL.extract hF rfl rfl rfl ?_
 refine TL.assign hF rfl rfl ?_
 refine TL.assign hF rfl rfl ?_
 refine TL.nil ?_
 refine TQ.then_n ?_
 refine T.seq ?_
 refine T.seq ?_
 refine T.region ?_
 refine TL.move hF rfl rfl ?_
 refine TL.bin hF rfl rfl rfl rfl ?_
 refine TL.move hF rfl rfl ?_
 refine TL.on rfl rfl rfl rfl ?_
 refine TL.move hF rfl rfl ?_
 refine TL.on rfl rfl rfl rfl ?_
 refine TL.bin hF rfl rfl rfl rfl ?_
 refine TL.pickF hF rfl rfl rfl rfl ?_
 refine TL.move hF rfl rfl ?_
 refine TL.on rfl rfl rfl rfl ?_
 refine TL.move hF rfl rfl ?_
 refine TL.on rfl rfl rfl rfl ?_
 refine TL.len hF rfl rfl ?_
 refine TL.on rfl rfl rfl rfl ?_
 refine TL.move hF rfl rfl ?_
 refine TL.on rfl rfl rfl rfl ?_
 refine TL.len hF rfl rfl ?_
 refine TL.on rfl rfl rfl rfl ?_
 refine TL.bin hF rfl rfl rfl rfl ?_
 refine TL.pickF hF rfl rfl rfl rfl ?_
 refine TL.nil ?_
 refine TQ.then_n ?_
 refine T.cond_f rfl (decide_eq_false (by omega)) ?_
 refine T.skip ?_
 refine TQ.then_n ?_
 refine T.seq ?_
 refine T.seq ?_
 refine T.region ?_
 refine TL.assign hF rfl rfl ?_
 refine TL.nil ?_
 refine TQ.then_n ?_
 refine T.block ?_
 refine T.loop (ι := SS) (fun s => s.i ≤ ps.length ∧ s.cur = cAt cells (erounds ps) s.i ∧ Row S3 w3 s.H s.ca (ints s.cur) ∧ nds s.old = traceS (fl.map TE.ex) s.cur top ∧ NL S3 w3 s.H s.oa s.old) (fun s => [(4, .bool false), (5, .slice fa fl.length fc), (6, .slice s.ca s.cur.length s.cc), (7, ptr b7), (8, .slice ra ps.length rc), (9, .slice aa la.length ac), (11, .slice s.oa s.old.length s.oc), (13, .int .i64 (s.i : Int))]) (fun s => s.H ++ ([(b7, Obj.cells (kC top).toArray 25 (0, 0))] :: η)) (fun s => ps.length - s.i) ⟨0, cells, ca, cc, lo, oa, oc, segs⟩ ⟨Nat.zero_le _, rfl, hcs.ro, hlo, hlon⟩ ⟨rfl, rfl, rfl, rfl, rfl, rfl, rfl, rfl, trivial⟩ rfl ?_
 rintro ⟨i, cur, ca, cc, old, oa, oc, HH⟩ ⟨hi, hcur, hcr, hold, hnl⟩
 dsimp only at hi hcur hcr hold hnl
 refine T.seq ?_
 refine T.seq ?_
 refine T.region ?_
 refine TL.move hF rfl rfl ?_
 refine TL.move hF rfl rfl ?_
 refine TL.len hF rfl rfl ?_
 refine TL.bin hF rfl rfl rfl rfl ?_
 refine TL.nil ?_
 refine TQ.then_n ?_
 first | refine T.cond_d rfl (fun ht62 => ?_) (fun ht62 => ?_) | refine T.cond _ rfl (fun ht62 => ?_) (fun ht62 => ?_)
 ·refine T.skip ?_
  refine TQ.then_n ?_
  refine T.seq ?_
  refine T.block ?_
  refine T.seq ?_
  refine T.region ?_
  refine TL.move hF rfl rfl ?_
  refine TL.move hF rfl rfl ?_
  refine TL.move hF rfl rfl ?_
  have hil : i < ps.length := by have h : (i : Int) < (ps.length : Int) := ht62; omega
  refine TL.indexAddr hF rfl rfl (hgl.ad hil) (by dsimp only; omega) (by dsimp only; omega) rfl ?_
  refine TL.load hF rfl ((hgl.up (by simp)).at (i := i) hil) rfl ?_
  have hcl : cur.length = cells.length := by rw [hcur, cAt_len]
  have hrki := hrk _ (List.getElem_mem hil)
  have hask2 : askedS (fl.map TE.ex) cur top = 0 := by rw [hcur]; exact asked_cAt hask hrk i hi
  have hnx : (editS cur ps[i].2.1) = cAt cells (erounds ps) (i + 1) := by rw [cAt_succ (by simpa [erounds] using hil), ← hcur]; simp [erounds]
  have hask3 : askedS (fl.map TE.ex) (editS cur ps[i].2.1) top = 0 := by rw [hnx]; exact asked_cAt hask hrk (i + 1) hil
  have hnl3 : (editS cur ps[i].2.1).length = cells.length := by rw [editS_len, hcl]
  refine TL.freeze2 HH rfl (fun S1 w1 hy1 hback1 => ?_)
  replace hT := hT.old hy1
  replace hfs := hfs.old hy1
  replace hgl := hgl.old hy1
  replace hla := hla.old hy1
  have hcr1 := hcr.frz hy1
  have hnl1 := hnl.frz hy1
  refine TL.call hF (edited_fn' (cc := cc) (hcr1.ro) (by omega) (by omega) (hgl.it hil) (by have := hrki.1; omega) (by rw [hcl]; exact hrki.2)) rfl rfl ?_
  rintro _ _ ⟨na, nc, seg, rfl, hso, rfl⟩
  have hn0 : Row S1 w1 [seg] na (ints (editS cur ps[i].2.1)) := OSl.row hso (by simp)
  refine TL.freeze2 [seg] rfl (fun S2 w2 hy2 hback2 => ?_)
  replace hT := hT.old hy2
  replace hfs := hfs.old hy2
  replace hla := hla.old hy2
  have hcr2 := hcr1.old hy2
  have hnl2 := hnl1.old hy2
  have hn2 := hn0.frz hy2
  refine TL.assign hF rfl rfl ?_
  refine TL.nil ?_
  refine TQ.then_n ?_
  refine T.seq ?_
  refine T.region ?_
  refine TL.move hF rfl rfl ?_
  refine TL.move hF rfl rfl ?_
  refine TL.loadA hF (kC top) rfl rfl (own_list (i := 0) (cs := kC top) rfl) rfl ?_
  refine TL.call hF (Run_fn (top := top) (cells := (editS cur ps[i].2.1)) (cc := nc) hT hfs hfl hn2 (by omega)) rfl rfl ?_
  rintro _ _ ⟨wa, wc, lw, segs2, rfl, hlw, hlwn, hlwc, rfl⟩
  rw [run_made hask3] at hlw ⊢
  dsimp only at hlw
  refine TL.freeze2 segs2 rfl (fun S3 w3 hy3 hback3 => ?_)
  replace hT := hT.old hy3
  replace hfs := hfs.old hy3
  replace hla := hla.old hy3
  have hcr3 := hcr2.old hy3
  have hnl4 := hnl2.old hy3
  have hn3 := hn2.old hy3
  have hlw3 := hlwn.frz hy3
  obtain ⟨htr1, hw1, hb1⟩ := tra_of hask2
  obtain ⟨htr2, hw2, hb2⟩ := tra_of hask3
  have holdl : old.length ≤ 1608 := by have := congrArg List.length hold; rw [nds_len] at this; omega
  have hlwl : lw.length ≤ 1608 := by have := congrArg List.length hlw; rw [nds_len] at this; omega
  refine TL.move hF rfl rfl ?_
  refine TL.extract hF rfl rfl rfl ?_
  refine TL.extract hF rfl rfl rfl ?_
  refine TL.assign hF rfl rfl ?_
  refine TL.assign hF rfl rfl ?_
  refine TL.nil ?_
  refine TQ.then_n ?_
  refine T.seq ?_
  refine T.region ?_
  refine TL.move hF rfl rfl ?_
  refine TL.move hF rfl rfl ?_
  refine TL.move hF rfl rfl ?_
  refine TL.loadA hF (kC top) rfl rfl (own_list (i := 0) (cs := kC top) rfl) rfl ?_
  have hds : distS (fl.map TE.ex) cur (editS cur ps[i].2.1) top = (apart (againstS (traceS (fl.map TE.ex) cur top) (traceS (fl.map TE.ex) (editS cur ps[i].2.1) top) 0), 0) := dist_yes hask2 hask3 (by omega)
  refine TL.call hF (Distance_fn (cc := cc) (dc := nc) (top := top) (cells := cur) (others := (editS cur ps[i].2.1)) hT hfs hfl hcr3 (by omega) hn3 (by omega)) rfl rfl ?_
  rintro _ _ ⟨rfl, rfl⟩
  rw [hds]
  refine TL.move hF rfl rfl ?_
  refine TL.extract hF rfl rfl rfl ?_
  refine TL.extract hF rfl rfl rfl ?_
  refine TL.assign hF rfl rfl ?_
  refine TL.assign hF rfl rfl ?_
  refine TL.nil ?_
  refine TQ.then_n ?_
  refine T.seq ?_
  refine T.region ?_
  refine TL.move hF rfl rfl ?_
  refine TL.loadA hF (kC top) rfl rfl (own_list (i := 0) (cs := kC top) rfl) rfl ?_
  refine TL.call hF (node_fn (k := top) (c := wc) hlw3 (by omega)) rfl rfl ?_
  rintro _ _ ⟨y, hb', rfl, hy, rfl⟩
  obtain rfl : hb' = true := by rw [hy.has, hlw]; exact htr2.tops
  have hyw : y.nd.word = (callsS (fl.map TE.ex) (editS cur ps[i].2.1) top).2 := by
   obtain ⟨x, h1, h2⟩ := htr2.word
   have h3 := (hy.1 rfl).2
   rw [hlw, h1] at h3
   rw [← Option.some.inj h3, h2, hw2]
  have hri : (la[i]'(by omega)).r = againstS (traceS (fl.map TE.ex) cur top) (traceS (fl.map TE.ex) (editS cur ps[i].2.1) top) (callsS (fl.map TE.ex) (editS cur ps[i].2.1) top).2 := by
   have h1 := rounds_at (F := (fl.map TE.ex)) (top := top) (rs := erounds ps) (cells := cells) (i := i) (by simpa [erounds] using hil)
   rw [← hlr, List.getElem?_map, List.getElem?_eq_getElem (show i < la.length by omega), ← hnx, ← hcur] at h1
   exact Option.some.inj h1
  have hlil : i < la.length := by omega
  generalize hxx : la[i]'(by omega) = x at hri
  have hxat : ∀ j v, (rhC x)[j]? = some v → At S3 w3 [] ⟨(sAt aa (i * 5)).block, (sAt aa (i * 5)).off + j, none⟩ v := by rw [← hxx]; exact hla.atA hlil
  have hxm : RM S3 w3 [] x := by rw [← hxx]; exact hla.item _ (List.getElem_mem hlil)
  have hxl : x.r.new.length + x.r.again.length + x.r.dropped.length ≤ 4824 := by
   rw [hri]
   simp only [againstS, keysN, List.length_map]
   have f1 := List.length_filter_le (fun x => !hasN (traceS (fl.map TE.ex) cur top) x.key) (traceS (fl.map TE.ex) (editS cur ps[i].2.1) top)
   have f2 := List.length_filter_le (againB (traceS (fl.map TE.ex) cur top)) (traceS (fl.map TE.ex) (editS cur ps[i].2.1) top)
   have f3 := List.length_filter_le (fun x => !hasN (traceS (fl.map TE.ex) (editS cur ps[i].2.1) top) x.key) (traceS (fl.map TE.ex) cur top)
   omega
  refine TL.move hF rfl rfl ?_
  refine TL.extract hF rfl rfl rfl ?_
  refine TL.extract hF rfl rfl rfl ?_
  refine TL.alloc hF rfl (fun b19 => ?_)
  refine TL.storeAs hF (nhC y) (nhC y) 0 (cs := [.int .i64 0, .int .i64 0, .int .i64 0, .slice none 0 0]) rfl rfl rfl rfl (nhC1 _) (Nat.le_refl 4) rfl ?_
  refine TL.assign hF rfl rfl ?_
  refine TL.nil ?_
  refine TQ.then_n ?_
  refine T.seq ?_
  refine T.seq ?_
  refine T.draw ?_
  refine DR.stepV [_] rfl [(16, _, none)] rfl rfl ⟨⟨rfl, by kernel_rfl⟩, trivial⟩ (fun ext => TL.move hF rfl rfl TL.fin) ?_
  refine DR.stepV [_, _] rfl [(92, _, some 0)] rfl rfl ⟨⟨rfl, rfl, rfl⟩, trivial⟩ (fun ext => TL.bin hF rfl rfl rfl rfl TL.fin) ?_
  refine DR.stepV [_, _, _] rfl [(93, _, some 1)] rfl rfl ⟨⟨rfl, rfl, rfl⟩, trivial⟩ (fun ext => TL.move hF rfl rfl TL.fin) ?_
  refine DR.stepV [_, _, _, _] rfl [(18, _, none), (94, _, some 2)] rfl rfl ⟨⟨rfl, by kernel_rfl⟩, ⟨rfl, rfl, rfl⟩, trivial⟩ (fun ext => TL.on rfl rfl rfl rfl <| TL.move hF rfl rfl TL.fin) ?_
  refine DR.stepV [_, _, _, _, _] rfl [(95, _, some 3), (94, _, some 2)] rfl rfl ⟨⟨rfl, rfl, rfl⟩, ⟨rfl, rfl, rfl⟩, trivial⟩ (fun ext => TL.on rfl rfl rfl rfl <| TL.bin hF rfl rfl rfl rfl TL.fin) ?_
  refine DR.stepV [_, _, _, _, _, _] rfl [(94, _, some 2), (96, _, some 4)] rfl rfl ⟨⟨rfl, rfl, rfl⟩, ⟨rfl, rfl, rfl⟩, trivial⟩ (fun ext => TL.pickF hF rfl rfl rfl rfl TL.fin) ?_
  refine DR.stepV [_, _, _, _, _, _, _] rfl [(97, _, some 5)] rfl rfl ⟨⟨rfl, rfl, rfl⟩, trivial⟩ (fun ext => TL.move hF rfl rfl TL.fin) ?_
  refine DR.stepV [_, _, _, _, _, _, _, _] rfl [(20, _, none), (98, _, some 6)] rfl rfl ⟨⟨rfl, by kernel_rfl⟩, ⟨rfl, rfl, rfl⟩, trivial⟩ (fun ext => TL.on rfl rfl rfl rfl <| TL.move hF rfl rfl TL.fin) ?_
  refine DR.stepV [_, _, _, _, _, _, _, _, _] rfl [(99, _, some 7), (98, _, some 6)] rfl rfl ⟨⟨rfl, rfl, rfl⟩, ⟨rfl, rfl, rfl⟩, trivial⟩ (fun ext => TL.on rfl rfl rfl rfl <| TL.not hF rfl rfl TL.fin) ?_
  refine DR.stepV [_, _, _, _, _, _, _, _, _, _] rfl [(98, _, some 6), (100, _, some 8)] rfl rfl ⟨⟨rfl, rfl, rfl⟩, ⟨rfl, rfl, rfl⟩, trivial⟩ (fun ext => TL.pickF hF rfl rfl rfl rfl TL.fin) ?_
  refine DR.stepV [_, _, _, _, _, _, _, _, _, _, _] rfl [(101, _, some 9)] rfl rfl ⟨⟨rfl, rfl, rfl⟩, trivial⟩ (fun ext => TL.move hF rfl rfl TL.fin) ?_
  refine DR.stepV [_, _, _, _, _, _, _, _, _, _, _, _] rfl [(19, _, none), (102, _, some 10)] rfl rfl ⟨⟨rfl, by kernel_rfl⟩, ⟨rfl, rfl, rfl⟩, trivial⟩ (fun ext => TL.on rfl rfl rfl rfl <| TL.fieldAddr hF rfl rfl TL.fin) ?_
  refine DR.stepV [_, _, _, _, _, _, _, _, _, _, _, _, _] rfl [(103, _, some 11), (102, _, some 10)] rfl rfl ⟨⟨rfl, rfl, rfl⟩, ⟨rfl, rfl, rfl⟩, trivial⟩ (fun ext => TL.on rfl rfl rfl rfl <| TL.load hF rfl (own_mem (b := b19) (cs := (nhC y).toArray) (e := 43) (fz := (0, 0)) (by simp) rfl) rfl TL.fin) ?_
  refine DR.stepV [_, _, _, _, _, _, _, _, _, _, _, _, _, _] rfl [(9, _, none), (102, _, some 10)] rfl rfl ⟨⟨rfl, by kernel_rfl⟩, ⟨rfl, rfl, rfl⟩, trivial⟩ (fun ext => TL.on rfl rfl rfl rfl <| TL.move hF rfl rfl TL.fin) ?_
  refine DR.stepV [_, _, _, _, _, _, _, _, _, _, _, _, _, _, _] rfl [(13, _, none), (102, _, some 10)] rfl rfl ⟨⟨rfl, by kernel_rfl⟩, ⟨rfl, rfl, rfl⟩, trivial⟩ (fun ext => TL.on rfl rfl rfl rfl <| TL.move hF rfl rfl TL.fin) ?_
  refine DR.stepV [_, _, _, _, _, _, _, _, _, _, _, _, _, _, _, _] rfl [(105, _, some 13), (106, _, some 14), (102, _, some 10)] rfl rfl ⟨⟨rfl, rfl, rfl⟩, ⟨rfl, rfl, rfl⟩, ⟨rfl, rfl, rfl⟩, trivial⟩ (fun ext => TL.on rfl rfl rfl rfl <| TL.indexAddr hF rfl rfl (hla.ad hlil) (by dsimp only; omega) (by dsimp only; omega) rfl TL.fin) ?_
  refine DR.stepV [_, _, _, _, _, _, _, _, _, _, _, _, _, _, _, _, _] rfl [(107, _, some 15), (102, _, some 10)] rfl rfl ⟨⟨rfl, rfl, rfl⟩, ⟨rfl, rfl, rfl⟩, trivial⟩ (fun ext => TL.on rfl rfl rfl rfl <| TL.fieldAddr hF rfl rfl TL.fin) ?_
  refine DR.stepV [_, _, _, _, _, _, _, _, _, _, _, _, _, _, _, _, _, _] rfl [(108, _, some 16), (102, _, some 10)] rfl rfl ⟨⟨rfl, rfl, rfl⟩, ⟨rfl, rfl, rfl⟩, trivial⟩ (fun ext => TL.on rfl rfl rfl rfl <| TL.load hF rfl ((hxat 0 _ rfl).up (by simp)) rfl TL.fin) ?_
  refine DR.stepV [_, _, _, _, _, _, _, _, _, _, _, _, _, _, _, _, _, _, _] rfl [(104, _, some 12), (109, _, some 17), (102, _, some 10)] rfl rfl ⟨⟨rfl, rfl, rfl⟩, ⟨rfl, rfl, rfl⟩, ⟨rfl, rfl, rfl⟩, trivial⟩ (fun ext => TL.on rfl rfl rfl rfl <| TL.bin hF rfl rfl rfl rfl TL.fin) ?_
  refine DR.stepV [_, _, _, _, _, _, _, _, _, _, _, _, _, _, _, _, _, _, _, _] rfl [(102, _, some 10), (110, _, some 18)] rfl rfl ⟨⟨rfl, rfl, rfl⟩, ⟨rfl, rfl, rfl⟩, trivial⟩ (fun ext => TL.pickF hF rfl rfl rfl rfl TL.fin) ?_
  refine DR.stepV [_, _, _, _, _, _, _, _, _, _, _, _, _, _, _, _, _, _, _, _, _] rfl [(111, _, some 19)] rfl rfl ⟨⟨rfl, rfl, rfl⟩, trivial⟩ (fun ext => TL.move hF rfl rfl TL.fin) ?_
  refine DR.stepV [_, _, _, _, _, _, _, _, _, _, _, _, _, _, _, _, _, _, _, _, _, _] rfl [(9, _, none), (112, _, some 20)] rfl rfl ⟨⟨rfl, by kernel_rfl⟩, ⟨rfl, rfl, rfl⟩, trivial⟩ (fun ext => TL.on rfl rfl rfl (decide_eq_false (by rw [hri]; exact fun h => h hyw)) <| TL.move hF rfl rfl TL.fin) ?_
  refine DR.stepV [_, _, _, _, _, _, _, _, _, _, _, _, _, _, _, _, _, _, _, _, _, _, _] rfl [(13, _, none), (112, _, some 20)] rfl rfl ⟨⟨rfl, by kernel_rfl⟩, ⟨rfl, rfl, rfl⟩, trivial⟩ (fun ext => TL.on rfl rfl rfl (decide_eq_false (by rw [hri]; exact fun h => h hyw)) <| TL.move hF rfl rfl TL.fin) ?_
  refine DR.stepV [_, _, _, _, _, _, _, _, _, _, _, _, _, _, _, _, _, _, _, _, _, _, _, _] rfl [(113, _, some 21), (114, _, some 22), (112, _, some 20)] rfl rfl ⟨⟨rfl, rfl, rfl⟩, ⟨rfl, rfl, rfl⟩, ⟨rfl, rfl, rfl⟩, trivial⟩ (fun ext => TL.on rfl rfl rfl (decide_eq_false (by rw [hri]; exact fun h => h hyw)) <| TL.indexAddr hF rfl rfl (hla.ad hlil) (by dsimp only; omega) (by dsimp only; omega) rfl TL.fin) ?_
  refine DR.stepV [_, _, _, _, _, _, _, _, _, _, _, _, _, _, _, _, _, _, _, _, _, _, _, _, _] rfl [(115, _, some 23), (112, _, some 20)] rfl rfl ⟨⟨rfl, rfl, rfl⟩, ⟨rfl, rfl, rfl⟩, trivial⟩ (fun ext => TL.on rfl rfl rfl (decide_eq_false (by rw [hri]; exact fun h => h hyw)) <| TL.loadA hF (rhC x) rfl rfl (fun j v hj => (hxat j v hj).up (by simp)) rfl TL.fin) ?_
  refine DR.stepV [_, _, _, _, _, _, _, _, _, _, _, _, _, _, _, _, _, _, _, _, _, _, _, _, _, _] rfl [(11, _, none), (112, _, some 20)] rfl rfl ⟨⟨rfl, by kernel_rfl⟩, ⟨rfl, rfl, rfl⟩, trivial⟩ (fun ext => TL.on rfl rfl rfl (decide_eq_false (by rw [hri]; exact fun h => h hyw)) <| TL.move hF rfl rfl TL.fin) ?_
  refine DR.stepV [_, _, _, _, _, _, _, _, _, _, _, _, _, _, _, _, _, _, _, _, _, _, _, _, _, _, _] rfl [(15, _, none), (112, _, some 20)] rfl rfl ⟨⟨rfl, by kernel_rfl⟩, ⟨rfl, rfl, rfl⟩, trivial⟩ (fun ext => TL.on rfl rfl rfl (decide_eq_false (by rw [hri]; exact fun h => h hyw)) <| TL.move hF rfl rfl TL.fin) ?_
  refine DR.stepV [_, _, _, _, _, _, _, _, _, _, _, _, _, _, _, _, _, _, _, _, _, _, _, _, _, _, _, _] rfl [(116, _, some 24), (117, _, some 25), (118, _, some 26), (112, _, some 20)] rfl rfl ⟨⟨rfl, rfl, rfl⟩, ⟨rfl, rfl, rfl⟩, ⟨rfl, rfl, rfl⟩, ⟨rfl, rfl, rfl⟩, trivial⟩ (fun ext => TL.on rfl rfl rfl (decide_eq_false (by rw [hri]; exact fun h => h hyw)) <| TL.callV hF (fits_fn hxm hnl4 hlw3 (by omega) (by omega) (by rw [hri, hold, hlw]; exact fits_ok htr1.up htr2.up _)) rfl rfl TL.fin) ?_
  refine DR.stepV [_, _, _, _, _, _, _, _, _, _, _, _, _, _, _, _, _, _, _, _, _, _, _, _, _, _, _, _, _] rfl [(119, _, some 27), (112, _, some 20)] rfl rfl ⟨⟨rfl, rfl, rfl⟩, ⟨rfl, rfl, rfl⟩, trivial⟩ (fun ext => TL.on rfl rfl rfl (decide_eq_false (by rw [hri]; exact fun h => h hyw)) <| TL.not hF rfl rfl TL.fin) ?_
  refine DR.stepV [_, _, _, _, _, _, _, _, _, _, _, _, _, _, _, _, _, _, _, _, _, _, _, _, _, _, _, _, _, _] rfl [(112, _, some 20), (120, _, some 28)] rfl rfl ⟨⟨rfl, rfl, rfl⟩, ⟨rfl, rfl, rfl⟩, trivial⟩ (fun ext => TL.pickF hF rfl (decide_eq_false (by rw [hri]; exact fun h => h hyw)) rfl rfl TL.fin) ?_
  refine DR.stepV [_, _, _, _, _, _, _, _, _, _, _, _, _, _, _, _, _, _, _, _, _, _, _, _, _, _, _, _, _, _, _] rfl [(121, _, some 29)] rfl rfl ⟨⟨rfl, rfl, rfl⟩, trivial⟩ (fun ext => TL.move hF rfl rfl TL.fin) ?_
  refine DR.stepV [_, _, _, _, _, _, _, _, _, _, _, _, _, _, _, _, _, _, _, _, _, _, _, _, _, _, _, _, _, _, _, _] rfl [(17, _, none), (122, _, some 30)] rfl rfl ⟨⟨rfl, by kernel_rfl⟩, ⟨rfl, rfl, rfl⟩, trivial⟩ (fun ext => TL.on rfl rfl rfl rfl <| TL.move hF rfl rfl TL.fin) ?_
  refine DR.stepV [_, _, _, _, _, _, _, _, _, _, _, _, _, _, _, _, _, _, _, _, _, _, _, _, _, _, _, _, _, _, _, _, _] rfl [(9, _, none), (122, _, some 30)] rfl rfl ⟨⟨rfl, by kernel_rfl⟩, ⟨rfl, rfl, rfl⟩, trivial⟩ (fun ext => TL.on rfl rfl rfl rfl <| TL.move hF rfl rfl TL.fin) ?_
  refine DR.stepV [_, _, _, _, _, _, _, _, _, _, _, _, _, _, _, _, _, _, _, _, _, _, _, _, _, _, _, _, _, _, _, _, _, _] rfl [(13, _, none), (122, _, some 30)] rfl rfl ⟨⟨rfl, by kernel_rfl⟩, ⟨rfl, rfl, rfl⟩, trivial⟩ (fun ext => TL.on rfl rfl rfl rfl <| TL.move hF rfl rfl TL.fin) ?_
  refine DR.stepV [_, _, _, _, _, _, _, _, _, _, _, _, _, _, _, _, _, _, _, _, _, _, _, _, _, _, _, _, _, _, _, _, _, _, _] rfl [(124, _, some 32), (125, _, some 33), (122, _, some 30)] rfl rfl ⟨⟨rfl, rfl, rfl⟩, ⟨rfl, rfl, rfl⟩, ⟨rfl, rfl, rfl⟩, trivial⟩ (fun ext => TL.on rfl rfl rfl rfl <| TL.indexAddr hF rfl rfl (hla.ad hlil) (by dsimp only; omega) (by dsimp only; omega) rfl TL.fin) ?_
  refine DR.stepV [_, _, _, _, _, _, _, _, _, _, _, _, _, _, _, _, _, _, _, _, _, _, _, _, _, _, _, _, _, _, _, _, _, _, _, _] rfl [(126, _, some 34), (122, _, some 30)] rfl rfl ⟨⟨rfl, rfl, rfl⟩, ⟨rfl, rfl, rfl⟩, trivial⟩ (fun ext => TL.on rfl rfl rfl rfl <| TL.fieldAddr hF rfl rfl TL.fin) ?_
  refine DR.stepV [_, _, _, _, _, _, _, _, _, _, _, _, _, _, _, _, _, _, _, _, _, _, _, _, _, _, _, _, _, _, _, _, _, _, _, _, _] rfl [(127, _, some 35), (122, _, some 30)] rfl rfl ⟨⟨rfl, rfl, rfl⟩, ⟨rfl, rfl, rfl⟩, trivial⟩ (fun ext => TL.on rfl rfl rfl rfl <| TL.load hF rfl ((hxat 2 _ rfl).up (by simp)) rfl TL.fin) ?_
  refine DR.stepV [_, _, _, _, _, _, _, _, _, _, _, _, _, _, _, _, _, _, _, _, _, _, _, _, _, _, _, _, _, _, _, _, _, _, _, _, _, _] rfl [(128, _, some 36), (122, _, some 30)] rfl rfl ⟨⟨rfl, rfl, rfl⟩, ⟨rfl, rfl, rfl⟩, trivial⟩ (fun ext => TL.on rfl rfl rfl rfl <| TL.len hF rfl rfl TL.fin) ?_
  refine DR.stepV [_, _, _, _, _, _, _, _, _, _, _, _, _, _, _, _, _, _, _, _, _, _, _, _, _, _, _, _, _, _, _, _, _, _, _, _, _, _, _] rfl [(9, _, none), (122, _, some 30)] rfl rfl ⟨⟨rfl, by kernel_rfl⟩, ⟨rfl, rfl, rfl⟩, trivial⟩ (fun ext => TL.on rfl rfl rfl rfl <| TL.move hF rfl rfl TL.fin) ?_
  refine DR.stepV [_, _, _, _, _, _, _, _, _, _, _, _, _, _, _, _, _, _, _, _, _, _, _, _, _, _, _, _, _, _, _, _, _, _, _, _, _, _, _, _] rfl [(13, _, none), (122, _, some 30)] rfl rfl ⟨⟨rfl, by kernel_rfl⟩, ⟨rfl, rfl, rfl⟩, trivial⟩ (fun ext => TL.on rfl rfl rfl rfl <| TL.move hF rfl rfl TL.fin) ?_
  refine DR.stepV [_, _, _, _, _, _, _, _, _, _, _, _, _, _, _, _, _, _, _, _, _, _, _, _, _, _, _, _, _, _, _, _, _, _, _, _, _, _, _, _, _] rfl [(130, _, some 38), (131, _, some 39), (122, _, some 30)] rfl rfl ⟨⟨rfl, rfl, rfl⟩, ⟨rfl, rfl, rfl⟩, ⟨rfl, rfl, rfl⟩, trivial⟩ (fun ext => TL.on rfl rfl rfl rfl <| TL.indexAddr hF rfl rfl (hla.ad hlil) (by dsimp only; omega) (by dsimp only; omega) rfl TL.fin) ?_
  refine DR.stepV [_, _, _, _, _, _, _, _, _, _, _, _, _, _, _, _, _, _, _, _, _, _, _, _, _, _, _, _, _, _, _, _, _, _, _, _, _, _, _, _, _, _] rfl [(132, _, some 40), (122, _, some 30)] rfl rfl ⟨⟨rfl, rfl, rfl⟩, ⟨rfl, rfl, rfl⟩, trivial⟩ (fun ext => TL.on rfl rfl rfl rfl <| TL.fieldAddr hF rfl rfl TL.fin) ?_
  refine DR.stepV [_, _, _, _, _, _, _, _, _, _, _, _, _, _, _, _, _, _, _, _, _, _, _, _, _, _, _, _, _, _, _, _, _, _, _, _, _, _, _, _, _, _, _] rfl [(133, _, some 41), (122, _, some 30)] rfl rfl ⟨⟨rfl, rfl, rfl⟩, ⟨rfl, rfl, rfl⟩, trivial⟩ (fun ext => TL.on rfl rfl rfl rfl <| TL.load hF rfl ((hxat 1 _ rfl).up (by simp)) rfl TL.fin) ?_
  refine DR.stepV [_, _, _, _, _, _, _, _, _, _, _, _, _, _, _, _, _, _, _, _, _, _, _, _, _, _, _, _, _, _, _, _, _, _, _, _, _, _, _, _, _, _, _, _] rfl [(134, _, some 42), (122, _, some 30)] rfl rfl ⟨⟨rfl, rfl, rfl⟩, ⟨rfl, rfl, rfl⟩, trivial⟩ (fun ext => TL.on rfl rfl rfl rfl <| TL.len hF rfl rfl TL.fin) ?_
  refine DR.stepV [_, _, _, _, _, _, _, _, _, _, _, _, _, _, _, _, _, _, _, _, _, _, _, _, _, _, _, _, _, _, _, _, _, _, _, _, _, _, _, _, _, _, _, _, _] rfl [(129, _, some 37), (135, _, some 43), (122, _, some 30)] rfl rfl ⟨⟨rfl, rfl, rfl⟩, ⟨rfl, rfl, rfl⟩, ⟨rfl, rfl, rfl⟩, trivial⟩ (fun ext => TL.on rfl rfl rfl rfl <| TL.add hF rfl rfl (by omega) (by omega) rfl TL.fin) ?_
  refine DR.stepV [_, _, _, _, _, _, _, _, _, _, _, _, _, _, _, _, _, _, _, _, _, _, _, _, _, _, _, _, _, _, _, _, _, _, _, _, _, _, _, _, _, _, _, _, _, _] rfl [(9, _, none), (122, _, some 30)] rfl rfl ⟨⟨rfl, by kernel_rfl⟩, ⟨rfl, rfl, rfl⟩, trivial⟩ (fun ext => TL.on rfl rfl rfl rfl <| TL.move hF rfl rfl TL.fin) ?_
  refine DR.stepV [_, _, _, _, _, _, _, _, _, _, _, _, _, _, _, _, _, _, _, _, _, _, _, _, _, _, _, _, _, _, _, _, _, _, _, _, _, _, _, _, _, _, _, _, _, _, _] rfl [(13, _, none), (122, _, some 30)] rfl rfl ⟨⟨rfl, by kernel_rfl⟩, ⟨rfl, rfl, rfl⟩, trivial⟩ (fun ext => TL.on rfl rfl rfl rfl <| TL.move hF rfl rfl TL.fin) ?_
  refine DR.stepV [_, _, _, _, _, _, _, _, _, _, _, _, _, _, _, _, _, _, _, _, _, _, _, _, _, _, _, _, _, _, _, _, _, _, _, _, _, _, _, _, _, _, _, _, _, _, _, _] rfl [(137, _, some 45), (138, _, some 46), (122, _, some 30)] rfl rfl ⟨⟨rfl, rfl, rfl⟩, ⟨rfl, rfl, rfl⟩, ⟨rfl, rfl, rfl⟩, trivial⟩ (fun ext => TL.on rfl rfl rfl rfl <| TL.indexAddr hF rfl rfl (hla.ad hlil) (by dsimp only; omega) (by dsimp only; omega) rfl TL.fin) ?_
  refine DR.stepV [_, _, _, _, _, _, _, _, _, _, _, _, _, _, _, _, _, _, _, _, _, _, _, _, _, _, _, _, _, _, _, _, _, _, _, _, _, _, _, _, _, _, _, _, _, _, _, _, _] rfl [(139, _, some 47), (122, _, some 30)] rfl rfl ⟨⟨rfl, rfl, rfl⟩, ⟨rfl, rfl, rfl⟩, trivial⟩ (fun ext => TL.on rfl rfl rfl rfl <| TL.fieldAddr hF rfl rfl TL.fin) ?_
  refine DR.stepV [_, _, _, _, _, _, _, _, _, _, _, _, _, _, _, _, _, _, _, _, _, _, _, _, _, _, _, _, _, _, _, _, _, _, _, _, _, _, _, _, _, _, _, _, _, _, _, _, _, _] rfl [(140, _, some 48), (122, _, some 30)] rfl rfl ⟨⟨rfl, rfl, rfl⟩, ⟨rfl, rfl, rfl⟩, trivial⟩ (fun ext => TL.on rfl rfl rfl rfl <| TL.load hF rfl ((hxat 4 _ rfl).up (by simp)) rfl TL.fin) ?_
  refine DR.stepV [_, _, _, _, _, _, _, _, _, _, _, _, _, _, _, _, _, _, _, _, _, _, _, _, _, _, _, _, _, _, _, _, _, _, _, _, _, _, _, _, _, _, _, _, _, _, _, _, _, _, _] rfl [(141, _, some 49), (122, _, some 30)] rfl rfl ⟨⟨rfl, rfl, rfl⟩, ⟨rfl, rfl, rfl⟩, trivial⟩ (fun ext => TL.on rfl rfl rfl rfl <| TL.len hF rfl rfl TL.fin) ?_
  refine DR.stepV [_, _, _, _, _, _, _, _, _, _, _, _, _, _, _, _, _, _, _, _, _, _, _, _, _, _, _, _, _, _, _, _, _, _, _, _, _, _, _, _, _, _, _, _, _, _, _, _, _, _, _, _] rfl [(136, _, some 44), (142, _, some 50), (122, _, some 30)] rfl rfl ⟨⟨rfl, rfl, rfl⟩, ⟨rfl, rfl, rfl⟩, ⟨rfl, rfl, rfl⟩, trivial⟩ (fun ext => TL.on rfl rfl rfl rfl <| TL.add hF rfl rfl (by omega) (by omega) rfl TL.fin) ?_
  refine DR.done [(143, _), (142, _), (141, _), (140, _), (139, _), (138, _), (137, _), (136, _), (135, _), (134, _), (133, _), (132, _), (131, _), (130, _), (129, _), (128, _), (127, _), (126, _), (125, _), (124, _), (123, _), (122, _), (121, _), (120, _), (119, _), (118, _), (117, _), (116, _), (115, _), (114, _), (113, _), (112, _), (111, _), (110, _), (109, _), (108, _), (107, _), (106, _), (105, _), (104, _), (103, _), (102, _), (101, _), (100, _), (99, _), (98, _), (97, _), (96, _), (95, _), (94, _), (93, _), (92, _)] [_, _] mixed (by kernel_rfl) (by kernel_rfl) (by kernel_rfl) rfl rfl ?_
  refine TL.on rfl rfl rfl rfl ?_
  refine TL.bin hF rfl rfl rfl rfl ?_
  refine TL.pickF hF rfl rfl rfl rfl ?_
  refine TL.nil ?_
  refine TQ.then_n ?_
  refine T.cond_f rfl (decide_eq_false (by rw [hri]; unfold apart againstS; dsimp only; omega)) ?_
  refine T.skip ?_
  refine TQ.then_n ?_
  refine T.region ?_
  refine TL.move hF rfl rfl ?_
  refine TL.move hF rfl rfl ?_
  refine TL.assign hF rfl rfl ?_
  refine TL.assign hF rfl rfl ?_
  refine TL.nil ?_
  refine TQ.block_n ?_
  refine TQ.then_n ?_
  refine T.region ?_
  refine TL.move hF rfl rfl ?_
  refine TL.add hF rfl rfl (by dsimp only; omega) (by dsimp only; omega) rfl ?_
  refine TL.assign hF rfl rfl ?_
  refine TL.nil ?_
  refine TQ.pop ?_
  refine TQ.thaw hy3 ?_
  refine TQ.thaw hy2 ?_
  refine TQ.thaw hy1 ?_
  refine TQ.round ⟨i + 1, (editS cur ps[i].2.1), na, nc, lw, wa, wc, (HH ++ ([seg] ++ segs2))⟩ ⟨by dsimp only; omega, by dsimp only; exact hnx, ?_, by dsimp only; exact hlw, ?_⟩ (by dsimp only; omega) ⟨rfl, rfl, rfl, rfl, rfl, rfl, rfl, rfl, trivial⟩ (by simp only [List.append_assoc, List.cons_append, List.nil_append])
  ·exact (hn0.up (η' := [seg] ++ segs2) (by intro s hs; simp at hs; simp [hs])).thaw hback1
  ·exact (hlwn.thaw hback2).thaw hback1
 ·refine T.exit ?_
  refine TQ.then_x ?_
  refine TQ.then_x ?_
  refine TQ.block_x ?_
  refine TQ.then_n ?_
  refine T.seq ?_
  refine T.region ?_
  refine TL.call hF (traced_law hT) rfl rfl ?_
  rintro _ _ rfl
  refine TL.assign hF rfl rfl ?_
  refine TL.nil ?_
  refine TQ.then_n ?_
  refine T.ret ?_
  exact TQ.retsF [4] _ hb rfl rfl rfl (fun _ => rfl)
end Go.Proofs.YtdiacobmhkmljaaDoor
namespace Go.Proofs.YtdiacobmhkmljaaDoor
open Go.Sl Go.ChangeShapes Go.WideShapes Go.ChangeAt Go.RowKit
set_option maxRecDepth 100000 in
theorem traceScratch_lifted (os : Os) (started : os.Started) (H : Type) (enc : TypeId × Value → H) :
    ReturnsInHanded {} Tryd.checked os 3 .any (fun w args => (Rows.traceScratchSpec.pre enc Tryd.prog Tryd.f3 [] false w args ∧ laidMetH Tryd.prog laidL w) ∧ sizedMet enc Tryd.prog Tryd.f3 (OpenSpec.ofChange Rows.traceScratchSpec) false w args)
      (Rows.traceScratchSpec.post enc Tryd.prog Tryd.f3 false true false false) := by
  refine returnsInHanded_of_change_and (C := Tryd.checked) (X := fun w _ => laidMetH Tryd.prog laidL w) (fun _ _ _ hh h => h.of_heap hh) Tryd.own started (by kernel_rfl) Tryd.func3
    (ChangeSpec.witness_shaped (enc := enc) (C := Tryd.checked) (os := os) (X := fun w _ => laidMetH Tryd.prog laidL w) false (World.doorLaid Tryd.prog 2000 os) #[.slice none 0 0, .slice none 0 0] 8 rfl (World.shaped_of_RefB (by kernel_rfl) (by kernel_rfl)) (by kernel_rfl) (by kernel_rfl) (by kernel_rfl) (door_met os _)) ?_
  intro W base args ds gs before hval0 hW _ hwt hL _
  have hval' : ∀ (j : Nat) t v, Tryd.f3.params[j]? = some t → args[j]? = some v → Value.okWide Tryd.prog W .any base t v := hval0
  have hW' := hW
  obtain ⟨p, q, hA0, hV, rfl, hfz, hnd⟩ := hW
  have hA : DataW.TrodAll enc Tryd.prog W 0 (fun _ => true) true [22, 22] args.toList ds p := hA0
  obtain ⟨v0, v1, d0, d1, p0, p1, rfl, rfl, rfl, h0, h1⟩ := trodAll_two hA
  obtain ⟨_, _, _, rfl⟩ := okWide_slice u22 (hval' 0 22 v0 rfl rfl)
  obtain ⟨_, h0⟩ := h0
  obtain ⟨a0, xs0, c0, e0, hx0, hl0, hb0⟩ := ints_arg h0
  obtain ⟨_, _, _, rfl⟩ := okWide_slice u22 (hval' 1 22 v1 rfl rfl)
  obtain ⟨_, h1⟩ := h1
  obtain ⟨a1, xs1, c1, e1, hx1, hl1, hb1⟩ := ints_arg h1
  rw [e0, e1] at hW' ⊢
  refine (calls_true (TraceScratch_fn (tabs_of_laid hL) hx0 hl0 hb0 hx1 hl1 hb1)).mono fun e W' ⟨he, hw⟩ => ⟨_, he, ?_⟩
  exact law_post (f := Tryd.f3) Tryd.laidOut rfl 4 rfl u4 hW' rfl (by decide +kernel) hw
theorem traceScratch_said : Rows.TraceScratchSaid :=
  OpenClaim.holds_of_wide 3 Tryd.f3 rfl rfl rfl rfl rfl rfl rfl ⟨rfl, rfl, rfl, rfl, rfl⟩ rfl rfl rfl rfl rfl (by kernel_rfl) Tryd.func3 (by kernel_rfl)
    (of_decide_eq_true (by kernel_rfl)) (by unfold Func.isWrapper; first | (rw [if_pos (by decide +kernel)]; kernel_rfl) | (rw [if_neg (by decide +kernel)]; exact ⟨rfl, rfl⟩))
    (fun os started H enc _ => traceScratch_lifted os started H enc)
theorem traceScratch_holds : Rows.TraceScratchCardSaid :=
  Claim7.holds_tied_plain_at .later [] [.funcs, .data] true (true, "9424b675a5bf1259037b7c80c1e1d1308b039b71f1eedf5d2444196735f82e90") false
    traceScratch_said (fun _ h => by cases h) (by kernel_rfl) (fun _ h => by cases h) traceScratch_row_tie rfl ⟨rfl, rfl⟩ (by kernel_rfl) rfl
    (fun f fn hf hfn => by
      obtain rfl : f = 3 := Option.some.inj ((show Tryd.prog.funcNamed "deltaworks/deltaworkslaw24.TraceScratch" = some 3 by kernel_rfl).symm.trans hf) |>.symm
      obtain rfl : fn = Tryd.f3 := (Option.some.inj (Tryd.func3.symm.trans hfn)).symm
      exact ⟨by kernel_rfl, fun j t ht => by
        have ht2 : (#[22, 22] : Array TypeId)[j]? = some t := ht
        have hm : t ∈ ([22, 22] : List TypeId) := by simpa using Array.mem_of_getElem? ht2
        have hall : (([22, 22] : List TypeId).all fun u => !Tryd.prog.wantsStandIn u) = true := by kernel_rfl
        exact (show Tryd.prog.wantsStandIn t = false by simpa using List.all_eq_true.1 hall t hm)⟩)
    (by kernel_rfl)
#print axioms traceScratch_holds
end Go.Proofs.YtdiacobmhkmljaaDoor
