/- Sums of the first cells, for every input. No condition. -/
import Derived.Test.YtdiacobmhkmljaaDoorTf
import Derived.Test.YtdiacobmhkmljaaDoorCards
import Derived.Test.YtdiacobmhkmljaaDoorTie
/- Play with rounds that lie in memory; cells put back; numbers in order. -/
namespace Go.Proofs.YtdiacobmhkmljaaDoor
open Go.Sl
variable {S : Nat → Prop} {w0 : World} {η : Heap}
theorem _root_.Go.Sl.Rt.frz {P : Program} {g : FuncId} {args : Array Value} {R : Value → Heap → Prop} (ηr : Heap) (h : ∀ S' w1, Frz S S' w0 w1 ηr → (∀ η' a v, At S' w1 η' a v → At S w0 (ηr ++ η') a v) → Rt P g args S' w1 η (fun v η' => R v (ηr ++ η'))) : Rt P g args S w0 (ηr ++ η) R := fun w hh => by
 obtain ⟨S', hz, hh', hb⟩ := frz_mk2 hh
 exact (h S' w hz hb w hh').mono fun e w' ⟨v, η', h1, h2, h3⟩ => ⟨v, ηr ++ η', h1, hz.back _ _ h2, h3⟩
theorem Play_fr {fa ca ra : Option Addr} {fl : List TE} {fc cc rc : Nat} {cells : List Int} {top : Key} {ps : List EH} (ηr : Heap) (hT : Tabs S w0) (hf : Fs S w0 [] fa fl) (hfl : fl.length < 9223372036854775808) (hc : Row S w0 [] ca (ints cells)) (hcl : cells.length < 9223372036854775808) (hr : GL kC S w0 ηr ra ps) (hrl0 : ps.length < 9223372036854775808) (hrl1 : ∀ p ∈ ps, p.2.1.length < 9223372036854775808) :
  Rt Tryd.prog 11 [.slice fa fl.length fc, .slice ca cells.length cc, kV top, .slice ra ps.length rc].toArray S w0 (ηr ++ η) (fun v η' => ∃ a cap l segs, v = .tuple #[.slice a l.length cap, .int .i64 (playS (fl.map TE.ex) cells top (erounds ps)).2] ∧ l.map (·.r) = (playS (fl.map TE.ex) cells top (erounds ps)).1 ∧ RL S w0 segs a l ∧ l.length ≤ cap ∧ η' = segs ++ η) :=
 Rt.frz ηr fun S' w1 hz hb => (Play_fn (hT.old hz) (hf.old hz) hfl (hc.old hz) hcl (hr.frz hz) hrl0 hrl1).mono fun v η' ⟨a, cap, l, segs, h1, h2, h3, h4, h5⟩ =>
  ⟨a, cap, l, ηr ++ segs, h1, h2, h3.map fun _ _ hr => hr.thaw hb, h4, by rw [h5, List.append_assoc]⟩
/-- What puts cells back. -/
def backL (cells : List Int) : List (Int × Int) := cells.zipIdx.map fun x => ((x.2 : Int), x.1)
theorem backL_len (cells : List Int) : (backL cells).length = cells.length := by simp [backL]
theorem backL_get (cells : List Int) {i : Nat} (h : i < cells.length) : (backL cells)[i]'(by rw [backL_len]; exact h) = ((i : Int), cells[i]) := by simp [backL]
theorem back_go {cells : List Int} : ∀ (i : Nat) (c : List Int), i ≤ cells.length → c.length = cells.length → ∀ j, (editS c ((backL cells).take i))[j]? = if j < i then cells[j]? else c[j]?
 | 0, c, _, _, j => by simp [editS]
 | i + 1, c, hi, hc, j => by
  have hil : i < (backL cells).length := by rw [backL_len]; omega
  rw [List.take_succ_eq_append_getElem hil, editS_snoc, backL_get cells (by omega)]
  simp only [Int.toNat_natCast]
  rw [List.getElem?_set, back_go i c (by omega) hc j]
  by_cases h1 : i = j
  ·subst h1
   rw [if_pos rfl, if_pos (by rw [editS_len]; omega), if_pos (by omega), List.getElem?_eq_getElem (by omega)]
  ·rw [if_neg h1]
   by_cases h2 : j < i
   ·rw [if_pos h2, if_pos (by omega)]
   ·rw [if_neg h2, if_neg (by omega)]
theorem back_ok {cells c : List Int} (h : c.length = cells.length) : editS c (backL cells) = cells := by
 have h1 := back_go cells.length c (Nat.le_refl _) h
 rw [List.take_of_length_le (by rw [backL_len]; omega)] at h1
 apply List.ext_getElem?
 intro j
 rw [h1 j]
 by_cases h2 : j < cells.length
 ·rw [if_pos h2]
 ·rw [if_neg h2, List.getElem?_eq_none (by omega), List.getElem?_eq_none (by omega)]
theorem run_made {F : List Ex} {cells : List Int} {top : Key} (h : askedS F cells top = 0) : runE F cells top = (traceS F cells top, 0) := by unfold runE; rw [if_pos h]
theorem tra_of {F : List Ex} {cells : List Int} {top : Key} (h : askedS F cells top = 0) : Tra F cells top (traceS F cells top) ∧ (callsS F cells top).2 = V F cells top ∧ (traceS F cells top).length ≤ 1608 := by
 obtain ⟨hs, k1, k2, k3, k4⟩ := scn_of h
 obtain ⟨hg, h2, h3⟩ := calls_ok (cells := cells) hs.right k1 k2 k3 (by omega)
 refine ⟨h3, h2, ?_⟩
 have := good_len hs hg
 unfold traceS; rw [sort_len hg.nd]; exact this
theorem play_made {F : List Ex} {cells : List Int} {top : Key} {ps : List EH} (h : askedS F cells top = 0) (h6 : ps.length ≤ 6) (hr : ∀ p ∈ ps, p.2.1.length ≤ 30 ∧ ∀ x ∈ p.2.1, okEdit cells.length x = true) : playS F cells top (erounds ps) = (roundsS F top (erounds ps) cells (traceS F cells top), 0) := by
 unfold playS
 rw [if_pos h, long_no (by omega) (fun p hp => (hr p hp).1), edits_yes (fun p hp => (hr p hp).2)]; rfl
set_option maxHeartbeats 2000000 in
theorem Ordered_true {a : Option Addr} {xs : List Int} {c m : Nat} (hx : Row S w0 [] a (ints xs)) (hl : xs.length < 9223372036854775808) (hm : m < 9223372036854775808) (hu : xs.Pairwise (· < ·)) (hb : ∀ x ∈ xs, 0 ≤ x ∧ x < m) :
  Rt Tryd.prog 19 [.slice a xs.length c, .int .i64 (m : Int)].toArray S w0 η (fun v η' => v = .bool true ∧ η' = η) := by
 have hF := open_wide
 refine Rt.of (fn := Tryd.f19) Tryd.func19 rfl rfl ?_
 refine T.seq ?_
 refine T.region ?_
 refine TL.assign hF rfl rfl ?_
 refine TL.nil ?_
 refine TQ.then_n ?_
 refine T.seq ?_
 refine T.seq ?_
 refine T.region ?_
 refine TL.assign hF rfl rfl ?_
 refine TL.nil ?_
 refine TQ.then_n ?_
 refine T.block ?_
 refine T.loop (ι := Nat) (fun i => i ≤ xs.length) (fun i => [(0, .slice a xs.length c), (1, .int .i64 (m : Int)), (4, .bool false), (5, .int .i64 (i : Int))]) (fun _ => η) (fun i => xs.length - i) 0 (Nat.zero_le _) ⟨rfl, rfl, rfl, rfl, trivial⟩ rfl ?_
 rintro i hi
 refine T.seq ?_
 refine T.seq ?_
 refine T.region ?_
 refine TL.move hF rfl rfl ?_
 refine TL.move hF rfl rfl ?_
 refine TL.len hF rfl rfl ?_
 refine TL.bin hF rfl rfl rfl rfl ?_
 refine TL.nil ?_
 refine TQ.then_n ?_
 first | refine T.cond_d rfl (fun ht9 => ?_) (fun ht9 => ?_) | refine T.cond _ rfl (fun ht9 => ?_) (fun ht9 => ?_)
 ·refine T.skip ?_
  refine TQ.then_n ?_
  refine T.seq ?_
  refine T.block ?_
  refine T.seq ?_
  rcases Nat.eq_zero_or_pos i with hi0 | hi0
  ·have hil : i < xs.length := by have h : (i : Int) < (xs.length : Int) := ht9; omega
   have hbi := hb _ (List.getElem_mem hil)
   refine T.draw ?_
   refine DR.stepV [_] rfl [(0, _, none)] rfl rfl ⟨⟨rfl, by kernel_rfl⟩, trivial⟩ (fun ext => TL.move hF rfl rfl TL.fin) ?_
   refine DR.stepV [_, _] rfl [(5, _, none)] rfl rfl ⟨⟨rfl, by kernel_rfl⟩, trivial⟩ (fun ext => TL.move hF rfl rfl TL.fin) ?_
   refine DR.stepV [_, _, _] rfl [(12, _, some 0), (13, _, some 1)] rfl rfl ⟨⟨rfl, rfl, rfl⟩, ⟨rfl, rfl, rfl⟩, trivial⟩ (fun ext => TL.indexAddr hF rfl rfl (hx.adi (i := i) (by simpa using hil)) (by omega) (by omega) rfl TL.fin) ?_
   refine DR.stepV [_, _, _, _] rfl [(14, _, some 2)] rfl rfl ⟨⟨rfl, rfl, rfl⟩, trivial⟩ (fun ext => TL.load hF rfl (hx.ro.int (i := i) hil) rfl TL.fin) ?_
   refine DR.stepV [_, _, _, _, _] rfl [(1, _, none)] rfl rfl ⟨⟨rfl, by kernel_rfl⟩, trivial⟩ (fun ext => TL.move hF rfl rfl TL.fin) ?_
   refine DR.stepV [_, _, _, _, _, _] rfl [(16, _, some 4)] rfl rfl ⟨⟨rfl, rfl, rfl⟩, trivial⟩ (fun ext => TL.sub hF rfl rfl (by omega) (by omega) rfl TL.fin) ?_
   refine DR.stepV [_, _, _, _, _, _, _] rfl [(15, _, some 3), (17, _, some 5)] rfl rfl ⟨⟨rfl, rfl, rfl⟩, ⟨rfl, rfl, rfl⟩, trivial⟩ (fun ext => TL.callV hF (Lies_fn xs[i] 0 ((m : Int) - 1)) rfl rfl TL.fin) ?_
   refine DR.stepV [_, _, _, _, _, _, _, _] rfl [(18, _, some 6)] rfl rfl ⟨⟨rfl, rfl, rfl⟩, trivial⟩ (fun ext => TL.not hF rfl rfl TL.fin) ?_
   refine DR.stepV [_, _, _, _, _, _, _, _, _] rfl [(19, _, some 7)] rfl rfl ⟨⟨rfl, rfl, rfl⟩, trivial⟩ (fun ext => TL.move hF rfl rfl TL.fin) ?_
   refine DR.stepV [_, _, _, _, _, _, _, _, _, _] rfl [(5, _, none), (20, _, some 8)] rfl rfl ⟨⟨rfl, by kernel_rfl⟩, ⟨rfl, rfl, rfl⟩, trivial⟩ (fun ext => TL.on rfl rfl rfl (by simp; omega) <| TL.move hF rfl rfl TL.fin) ?_
   refine DR.stepV [_, _, _, _, _, _, _, _, _, _, _] rfl [(21, _, some 9), (20, _, some 8)] rfl rfl ⟨⟨rfl, rfl, rfl⟩, ⟨rfl, rfl, rfl⟩, trivial⟩ (fun ext => TL.on rfl rfl rfl (by simp; omega) <| TL.bin hF rfl rfl rfl rfl TL.fin) ?_
   refine DR.stepV [_, _, _, _, _, _, _, _, _, _, _, _] rfl [(22, _, some 10), (20, _, some 8)] rfl rfl ⟨⟨rfl, rfl, rfl⟩, ⟨rfl, rfl, rfl⟩, trivial⟩ (fun ext => TL.on rfl rfl rfl (by simp; omega) <| TL.move hF rfl rfl TL.fin) ?_
   refine DR.stepV [_, _, _, _, _, _, _, _, _, _, _, _, _] rfl [(0, _, none), (23, _, some 11)] rfl rfl ⟨⟨rfl, by kernel_rfl⟩, ⟨rfl, rfl, rfl⟩, trivial⟩ (fun ext => TL.off hF rfl rfl rfl (decide_eq_false (by omega)) rfl TL.fin) ?_
   refine DR.stepV [_, _, _, _, _, _, _, _, _, _, _, _, _, _] rfl [(5, _, none), (23, _, some 11)] rfl rfl ⟨⟨rfl, by kernel_rfl⟩, ⟨rfl, rfl, rfl⟩, trivial⟩ (fun ext => TL.off hF rfl rfl rfl (decide_eq_false (by omega)) rfl TL.fin) ?_
   refine DR.stepV [_, _, _, _, _, _, _, _, _, _, _, _, _, _, _] rfl [(24, _, some 12), (25, _, some 13), (23, _, some 11)] rfl rfl ⟨⟨rfl, rfl, rfl⟩, ⟨rfl, rfl, rfl⟩, ⟨rfl, rfl, rfl⟩, trivial⟩ (fun ext => TL.off hF rfl rfl rfl (decide_eq_false (by omega)) rfl TL.fin) ?_
   refine DR.stepV [_, _, _, _, _, _, _, _, _, _, _, _, _, _, _, _] rfl [(26, _, some 14), (23, _, some 11)] rfl rfl ⟨⟨rfl, rfl, rfl⟩, ⟨rfl, rfl, rfl⟩, trivial⟩ (fun ext => TL.off hF rfl rfl rfl (decide_eq_false (by omega)) rfl TL.fin) ?_
   refine DR.stepV [_, _, _, _, _, _, _, _, _, _, _, _, _, _, _, _, _] rfl [(0, _, none), (23, _, some 11)] rfl rfl ⟨⟨rfl, by kernel_rfl⟩, ⟨rfl, rfl, rfl⟩, trivial⟩ (fun ext => TL.off hF rfl rfl rfl (decide_eq_false (by omega)) rfl TL.fin) ?_
   refine DR.stepV [_, _, _, _, _, _, _, _, _, _, _, _, _, _, _, _, _, _] rfl [(5, _, none), (23, _, some 11)] rfl rfl ⟨⟨rfl, by kernel_rfl⟩, ⟨rfl, rfl, rfl⟩, trivial⟩ (fun ext => TL.off hF rfl rfl rfl (decide_eq_false (by omega)) rfl TL.fin) ?_
   refine DR.stepV [_, _, _, _, _, _, _, _, _, _, _, _, _, _, _, _, _, _, _] rfl [(29, _, some 17), (23, _, some 11)] rfl rfl ⟨⟨rfl, rfl, rfl⟩, ⟨rfl, rfl, rfl⟩, trivial⟩ (fun ext => TL.off hF rfl rfl rfl (decide_eq_false (by omega)) rfl TL.fin) ?_
   refine DR.stepV [_, _, _, _, _, _, _, _, _, _, _, _, _, _, _, _, _, _, _, _] rfl [(28, _, some 16), (30, _, some 18), (23, _, some 11)] rfl rfl ⟨⟨rfl, rfl, rfl⟩, ⟨rfl, rfl, rfl⟩, ⟨rfl, rfl, rfl⟩, trivial⟩ (fun ext => TL.off hF rfl rfl rfl (decide_eq_false (by omega)) rfl TL.fin) ?_
   refine DR.stepV [_, _, _, _, _, _, _, _, _, _, _, _, _, _, _, _, _, _, _, _, _] rfl [(31, _, some 19), (23, _, some 11)] rfl rfl ⟨⟨rfl, rfl, rfl⟩, ⟨rfl, rfl, rfl⟩, trivial⟩ (fun ext => TL.off hF rfl rfl rfl (decide_eq_false (by omega)) rfl TL.fin) ?_
   refine DR.done [(32, _), (31, _), (30, _), (29, _), (28, _), (27, _), (26, _), (25, _), (24, _), (23, _), (22, _), (21, _), (20, _), (19, _), (18, _), (17, _), (16, _), (15, _), (14, _), (13, _), (12, _)] [_, _, _] mixed (by kernel_rfl) (by kernel_rfl) (by kernel_rfl) rfl rfl ?_
   refine TL.off hF rfl rfl rfl (decide_eq_false (by omega)) rfl ?_
   refine TL.on rfl rfl rfl (by simp; omega) ?_
   refine TL.pickF hF rfl (decide_eq_false (by omega)) rfl rfl ?_
   refine TL.pickF hF rfl (by simp; omega) rfl rfl ?_
   refine TL.nil ?_
   refine TQ.then_n ?_
   refine T.cond_f rfl rfl ?_
   refine T.skip ?_
   refine TQ.block_n ?_
   refine TQ.then_n ?_
   refine T.region ?_
   refine TL.move hF rfl rfl ?_
   refine TL.add hF rfl rfl (by omega) (by omega) rfl ?_
   refine TL.assign hF rfl rfl ?_
   refine TL.nil ?_
   refine TQ.round (i + 1) (by omega) (by omega) ⟨rfl, rfl, rfl, rfl, trivial⟩ rfl
  ·have hil : i < xs.length := by have h : (i : Int) < (xs.length : Int) := ht9; omega
   have hbi := hb _ (List.getElem_mem hil)
   refine T.draw ?_
   refine DR.stepV [_] rfl [(0, _, none)] rfl rfl ⟨⟨rfl, by kernel_rfl⟩, trivial⟩ (fun ext => TL.move hF rfl rfl TL.fin) ?_
   refine DR.stepV [_, _] rfl [(5, _, none)] rfl rfl ⟨⟨rfl, by kernel_rfl⟩, trivial⟩ (fun ext => TL.move hF rfl rfl TL.fin) ?_
   refine DR.stepV [_, _, _] rfl [(12, _, some 0), (13, _, some 1)] rfl rfl ⟨⟨rfl, rfl, rfl⟩, ⟨rfl, rfl, rfl⟩, trivial⟩ (fun ext => TL.indexAddr hF rfl rfl (hx.adi (i := i) (by simpa using hil)) (by omega) (by omega) rfl TL.fin) ?_
   refine DR.stepV [_, _, _, _] rfl [(14, _, some 2)] rfl rfl ⟨⟨rfl, rfl, rfl⟩, trivial⟩ (fun ext => TL.load hF rfl (hx.ro.int (i := i) hil) rfl TL.fin) ?_
   refine DR.stepV [_, _, _, _, _] rfl [(1, _, none)] rfl rfl ⟨⟨rfl, by kernel_rfl⟩, trivial⟩ (fun ext => TL.move hF rfl rfl TL.fin) ?_
   refine DR.stepV [_, _, _, _, _, _] rfl [(16, _, some 4)] rfl rfl ⟨⟨rfl, rfl, rfl⟩, trivial⟩ (fun ext => TL.sub hF rfl rfl (by omega) (by omega) rfl TL.fin) ?_
   refine DR.stepV [_, _, _, _, _, _, _] rfl [(15, _, some 3), (17, _, some 5)] rfl rfl ⟨⟨rfl, rfl, rfl⟩, ⟨rfl, rfl, rfl⟩, trivial⟩ (fun ext => TL.callV hF (Lies_fn xs[i] 0 ((m : Int) - 1)) rfl rfl TL.fin) ?_
   refine DR.stepV [_, _, _, _, _, _, _, _] rfl [(18, _, some 6)] rfl rfl ⟨⟨rfl, rfl, rfl⟩, trivial⟩ (fun ext => TL.not hF rfl rfl TL.fin) ?_
   refine DR.stepV [_, _, _, _, _, _, _, _, _] rfl [(19, _, some 7)] rfl rfl ⟨⟨rfl, rfl, rfl⟩, trivial⟩ (fun ext => TL.move hF rfl rfl TL.fin) ?_
   refine DR.stepV [_, _, _, _, _, _, _, _, _, _] rfl [(5, _, none), (20, _, some 8)] rfl rfl ⟨⟨rfl, by kernel_rfl⟩, ⟨rfl, rfl, rfl⟩, trivial⟩ (fun ext => TL.on rfl rfl rfl (by simp; omega) <| TL.move hF rfl rfl TL.fin) ?_
   refine DR.stepV [_, _, _, _, _, _, _, _, _, _, _] rfl [(21, _, some 9), (20, _, some 8)] rfl rfl ⟨⟨rfl, rfl, rfl⟩, ⟨rfl, rfl, rfl⟩, trivial⟩ (fun ext => TL.on rfl rfl rfl (by simp; omega) <| TL.bin hF rfl rfl rfl rfl TL.fin) ?_
   refine DR.stepV [_, _, _, _, _, _, _, _, _, _, _, _] rfl [(22, _, some 10), (20, _, some 8)] rfl rfl ⟨⟨rfl, rfl, rfl⟩, ⟨rfl, rfl, rfl⟩, trivial⟩ (fun ext => TL.on rfl rfl rfl (by simp; omega) <| TL.move hF rfl rfl TL.fin) ?_
   refine DR.stepV [_, _, _, _, _, _, _, _, _, _, _, _, _] rfl [(0, _, none), (23, _, some 11)] rfl rfl ⟨⟨rfl, by kernel_rfl⟩, ⟨rfl, rfl, rfl⟩, trivial⟩ (fun ext => TL.on rfl rfl rfl (decide_eq_true (by omega)) <| TL.move hF rfl rfl TL.fin) ?_
   refine DR.stepV [_, _, _, _, _, _, _, _, _, _, _, _, _, _] rfl [(5, _, none), (23, _, some 11)] rfl rfl ⟨⟨rfl, by kernel_rfl⟩, ⟨rfl, rfl, rfl⟩, trivial⟩ (fun ext => TL.on rfl rfl rfl (decide_eq_true (by omega)) <| TL.move hF rfl rfl TL.fin) ?_
   refine DR.stepV [_, _, _, _, _, _, _, _, _, _, _, _, _, _, _] rfl [(24, _, some 12), (25, _, some 13), (23, _, some 11)] rfl rfl ⟨⟨rfl, rfl, rfl⟩, ⟨rfl, rfl, rfl⟩, ⟨rfl, rfl, rfl⟩, trivial⟩ (fun ext => TL.on rfl rfl rfl (decide_eq_true (by omega)) <| TL.indexAddr hF rfl rfl (hx.adi (i := i) (by simpa using hil)) (by omega) (by omega) rfl TL.fin) ?_
   refine DR.stepV [_, _, _, _, _, _, _, _, _, _, _, _, _, _, _, _] rfl [(26, _, some 14), (23, _, some 11)] rfl rfl ⟨⟨rfl, rfl, rfl⟩, ⟨rfl, rfl, rfl⟩, trivial⟩ (fun ext => TL.on rfl rfl rfl (decide_eq_true (by omega)) <| TL.load hF rfl (hx.ro.int (i := i) hil) rfl TL.fin) ?_
   refine DR.stepV [_, _, _, _, _, _, _, _, _, _, _, _, _, _, _, _, _] rfl [(0, _, none), (23, _, some 11)] rfl rfl ⟨⟨rfl, by kernel_rfl⟩, ⟨rfl, rfl, rfl⟩, trivial⟩ (fun ext => TL.on rfl rfl rfl (decide_eq_true (by omega)) <| TL.move hF rfl rfl TL.fin) ?_
   refine DR.stepV [_, _, _, _, _, _, _, _, _, _, _, _, _, _, _, _, _, _] rfl [(5, _, none), (23, _, some 11)] rfl rfl ⟨⟨rfl, by kernel_rfl⟩, ⟨rfl, rfl, rfl⟩, trivial⟩ (fun ext => TL.on rfl rfl rfl (decide_eq_true (by omega)) <| TL.move hF rfl rfl TL.fin) ?_
   refine DR.stepV [_, _, _, _, _, _, _, _, _, _, _, _, _, _, _, _, _, _, _] rfl [(29, _, some 17), (23, _, some 11)] rfl rfl ⟨⟨rfl, rfl, rfl⟩, ⟨rfl, rfl, rfl⟩, trivial⟩ (fun ext => TL.on rfl rfl rfl (decide_eq_true (by omega)) <| TL.sub hF rfl rfl (by omega) (by omega) rfl TL.fin) ?_
   refine DR.stepV [_, _, _, _, _, _, _, _, _, _, _, _, _, _, _, _, _, _, _, _] rfl [(28, _, some 16), (30, _, some 18), (23, _, some 11)] rfl rfl ⟨⟨rfl, rfl, rfl⟩, ⟨rfl, rfl, rfl⟩, ⟨rfl, rfl, rfl⟩, trivial⟩ (fun ext => TL.on rfl rfl rfl (decide_eq_true (by omega)) <| TL.indexAddr hF rfl rfl (hx.adi (i := ((i : Int) - 1).toNat) (by simp; omega)) (by omega) (by omega) rfl TL.fin) ?_
   refine DR.stepV [_, _, _, _, _, _, _, _, _, _, _, _, _, _, _, _, _, _, _, _, _] rfl [(31, _, some 19), (23, _, some 11)] rfl rfl ⟨⟨rfl, rfl, rfl⟩, ⟨rfl, rfl, rfl⟩, trivial⟩ (fun ext => TL.on rfl rfl rfl (decide_eq_true (by omega)) <| TL.load hF rfl (hx.ro.int (i := ((i : Int) - 1).toNat) (by omega)) rfl TL.fin) ?_
   refine DR.done [(32, _), (31, _), (30, _), (29, _), (28, _), (27, _), (26, _), (25, _), (24, _), (23, _), (22, _), (21, _), (20, _), (19, _), (18, _), (17, _), (16, _), (15, _), (14, _), (13, _), (12, _)] [_, _, _] mixed (by kernel_rfl) (by kernel_rfl) (by kernel_rfl) rfl rfl ?_
   refine TL.on rfl rfl rfl (decide_eq_true (by omega)) ?_
   refine TL.bin hF rfl rfl rfl rfl ?_
   refine TL.on rfl rfl rfl (by simp; omega) ?_
   refine TL.pickT hF rfl (decide_eq_true (by omega)) rfl rfl ?_
   refine TL.pickF hF rfl (by simp; omega) rfl rfl ?_
   refine TL.nil ?_
   refine TQ.then_n ?_
   refine T.cond_f rfl (by first | rfl | exact decide_eq_false (by have h9 := List.pairwise_iff_getElem.1 hu (((i : Int) - 1).toNat) i (by omega) hil (by omega); omega)) ?_
   refine T.skip ?_
   refine TQ.block_n ?_
   refine TQ.then_n ?_
   refine T.region ?_
   refine TL.move hF rfl rfl ?_
   refine TL.add hF rfl rfl (by omega) (by omega) rfl ?_
   refine TL.assign hF rfl rfl ?_
   refine TL.nil ?_
   refine TQ.round (i + 1) (by omega) (by omega) ⟨rfl, rfl, rfl, rfl, trivial⟩ rfl
 ·refine T.exit ?_
  refine TQ.then_x ?_
  refine TQ.then_x ?_
  refine TQ.block_x ?_
  refine TQ.then_n ?_
  refine T.seq ?_
  refine T.region ?_
  refine TL.assign hF rfl rfl ?_
  refine TL.nil ?_
  refine TQ.then_n ?_
  refine T.ret ?_
  refine TQ.rets [4] _ rfl rfl rfl ?_
  exact ⟨rfl, rfl⟩
end Go.Proofs.YtdiacobmhkmljaaDoor
/- Sums of the first cells: what the chapter's function is worth, depends on, and runs again. -/
namespace Go.Proofs.YtdiacobmhkmljaaDoor
def psum (cells : List Int) (i : Nat) : Int := (cells.take i).sum
theorem psum_succ {cells : List Int} {i : Nat} (h : i < cells.length) : psum cells (i + 1) = psum cells i + cells[i] := by
  unfold psum
  rw [List.take_succ_eq_append_getElem h, List.sum_append, List.sum_cons, List.sum_nil, Int.add_zero]
theorem psum_set : ∀ (l : List Int) (k : Nat) (h : k < l.length) (w : Int) (i : Nat), psum (l.set k w) i = psum l i + (if k < i then w - l[k] else 0)
  | [], k, h, _, _ => by simp at h
  | x :: l, k, h, w, 0 => by simp [psum]
  | x :: l, 0, h, w, i + 1 => by simp [psum]; omega
  | x :: l, k + 1, h, w, i + 1 => by
    have := psum_set l k (by simpa using h) w i
    simp only [psum, List.set_cons_succ, List.take_succ_cons, List.sum_cons, List.getElem_cons_succ] at this ⊢
    rw [this]
    by_cases e : k < i
    · rw [if_pos e, if_pos (by omega)]; omega
    · rw [if_neg e, if_neg (by omega)]; omega
theorem at0_get' {l : List Int} {i : Nat} (h : i < l.length) : at0 l i = l[i] := by
  unfold at0; rw [List.getD_eq_getElem?_getD, List.getElem?_eq_getElem h]; rfl
theorem ev_zero {V : Key → Int} {cells : List Int} : evP V cells 0 (fnE funsF (0, 0)) = (0, []) := by
  show evP V cells 0 (.nd 5 0 [argE, sumE, intE 0]) = _
  simp [evP, ifP, argE, intE]
theorem ev_add {V : Key → Int} {cells : List Int} {arg : Int} {X Y : Ex} {a b : Int} {ds es : List Dp} (h1 : evP V cells arg X = (a, ds)) (h2 : evP V cells arg Y = (b, es)) : evP V cells arg (.nd 3 0 [X, Y]) = (wrap32 (a + b), ds ++ es) := by
  simp [evP, evsP, h1, h2, finP, binS, at0]
theorem ev_step' {V : Key → Int} {cells : List Int} {j : Nat} (h : j < cells.length) (h2 : j < 200) :
    evP V cells ((j : Int) + 1) (fnE funsF (0, ((j : Int) + 1))) = (wrap32 (cells[j] + V (0, (j : Int))), [cellD (j : Int) cells[j], gotD (0, (j : Int)) (V (0, (j : Int)))]) := by
  show evP V cells ((j : Int) + 1) (.nd 5 0 [argE, sumE, intE 0]) = _
  have e1 : wrap32 (((j : Int) + 1) - 1) = (j : Int) := by unfold wrap32; omega
  have e2 : cellAt cells (j : Int) = j := by
    unfold cellAt
    rw [Int.emod_eq_of_lt (by omega) (by omega)]; omega
  have e3 : evP V cells ((j : Int) + 1) (lessE 1) = ((j : Int), []) := by
    simp only [lessE, argE, intE, evP, evsP, finP, binS, at0]
    simp only [List.getD_cons_zero, List.getD_cons_succ, List.append_nil]
    simp [show wrap32 (j : Int) = (j : Int) by unfold wrap32; omega]
  have e4 : evP V cells ((j : Int) + 1) sumE = (wrap32 (cells[j] + V (0, (j : Int))), [cellD (j : Int) cells[j], gotD (0, (j : Int)) (V (0, (j : Int)))]) := by
    have a1 : evP V cells ((j : Int) + 1) (.nd 2 0 [lessE 1]) = (cells[j], [cellD (j : Int) cells[j]]) := by
      simp [evP, evsP, e3, finP, at0, e2, h]
    have a2 : evP V cells ((j : Int) + 1) (.nd 6 0 [lessE 1]) = (V (0, (j : Int)), [gotD (0, (j : Int)) (V (0, (j : Int)))]) := by
      simp [evP, evsP, e3, finP, at0, show (j : Int) < (j : Int) + 1 by omega]
    exact ev_add a1 a2
  have e5 : evP V cells ((j : Int) + 1) argE = (((j : Int) + 1), []) := by simp [argE, evP]
  unfold evP
  rw [if_neg (by decide), if_neg (by decide), if_pos rfl]
  unfold ifP
  rw [e5, if_pos (by simp only; omega), e4]; rfl
theorem ev_step {V : Key → Int} {cells : List Int} {j : Nat} (h : j < cells.length) (h2 : j < 200) :
    evP V cells ((j + 1 : Nat) : Int) (fnE funsF (0, ((j + 1 : Nat) : Int))) = (wrap32 (cells[j] + V (0, (j : Int))), [cellD (j : Int) cells[j], gotD (0, (j : Int)) (V (0, (j : Int)))]) := ev_step' h h2
theorem wrap_acc (s c : Int) : wrap32 (c + wrap32 s) = wrap32 (s + c) := by unfold wrap32; omega
theorem V_sum {cells : List Int} (hl : cells.length ≤ 100) : ∀ i : Nat, i ≤ cells.length → V funsF cells (0, (i : Int)) = wrap32 (psum cells i)
  | 0, _ => by
    rw [V_eq (by simp) (by simp)]
    rw [show ((0, ((0 : Nat) : Int)) : Key) = (0, 0) from rfl, ev_zero]
    simp [psum, wrap32]
  | j + 1, h => by
    rw [V_eq (by simp only; omega) (by simp only; omega), ev_step (by omega) (by omega), V_sum hl j (by omega), wrap_acc, psum_succ (by omega)]
theorem D_zero {cells : List Int} : D funsF cells (0, 0) = [] := by unfold D; rw [ev_zero]
theorem D_step {cells : List Int} (hl : cells.length ≤ 100) {j : Nat} (h : j < cells.length) : D funsF cells (0, ((j + 1 : Nat) : Int)) = [cellD (j : Int) cells[j], gotD (0, (j : Int)) (wrap32 (psum cells j))] := by
  unfold D; rw [ev_step h (by omega), V_sum hl j (by omega)]
def ks (n : Nat) : List Key := (List.range n).map fun i : Nat => ((0 : Int), (i : Int))
theorem ks_up (n : Nat) : KUp (ks n) := by
  unfold KUp ks
  rw [List.pairwise_map]
  refine List.pairwise_lt_range.imp fun {a b} h => ?_
  rw [kLt_iff]; right; exact ⟨rfl, by simp only; omega⟩
theorem mem_ks {n : Nat} {k : Key} : k ∈ ks n ↔ ∃ i : Nat, i < n ∧ k = (0, (i : Int)) := by
  unfold ks
  rw [List.mem_map]
  constructor
  · rintro ⟨i, h, rfl⟩; exact ⟨i, List.mem_range.1 h, rfl⟩
  · rintro ⟨i, h, rfl⟩; exact ⟨i, List.mem_range.2 h, rfl⟩
theorem tra_keys {cells : List Int} (hl : cells.length ≤ 100) {l : List Nd} (h : Tra funsF cells (0, (cells.length : Int)) l) : keysN l = ks (cells.length + 1) := by
  refine kup_ext h.up (ks_up _) fun k => ?_
  rw [mem_ks]
  constructor
  · intro hk
    obtain ⟨x, hx, rfl⟩ := List.mem_map.1 hk
    refine h.least (fun k => ∃ i : Nat, i < cells.length + 1 ∧ k = (0, (i : Int))) (fun k hk d hd hc => ?_) ⟨cells.length, by omega, rfl⟩ x hx
    obtain ⟨i, hi, rfl⟩ := hk
    match i, hi, hd with
    | 0, _, hd => rw [show ((0, ((0 : Nat) : Int)) : Key) = (0, 0) from rfl, D_zero] at hd; simp at hd
    | j + 1, hi, hd =>
      rw [D_step hl (by omega)] at hd
      simp only [List.mem_cons, List.not_mem_nil, or_false] at hd
      rcases hd with rfl | rfl
      · simp [cellD] at hc
      · exact ⟨j, by omega, rfl⟩
  · have key : ∀ j : Nat, j ≤ cells.length → hasN l (0, ((cells.length - j : Nat) : Int)) = true := by
      intro j
      induction j with
      | zero => intro _; simpa using h.tops
      | succ j ih =>
        intro hj
        obtain ⟨x, hx, hk, _, _, hd⟩ := h.find (ih (by omega))
        obtain ⟨_, _, _, _, _, _, h7⟩ := h.ok x hx
        have e : cells.length - j = (cells.length - (j + 1)) + 1 := by omega
        rw [e, D_step hl (by omega)] at hd
        exact h7 (gotD (0, ((cells.length - (j + 1) : Nat) : Int)) (wrap32 (psum cells (cells.length - (j + 1))))) (by rw [hd]; simp) rfl
    rintro ⟨i, hi, rfl⟩
    have := key (cells.length - i) (by omega)
    rw [show cells.length - (cells.length - i) = i by omega] at this
    exact hasN_iff.1 this
/-- What is asked again behind a change. -/
theorem D_set {cells : List Int} {k : Nat} {w : Int} (hl : cells.length ≤ 100) (hk : k < cells.length) (hw1 : isW cells[k] = true) (hw2 : isW w = true) {i : Nat} (hi : i ≤ cells.length) :
    D funsF cells (0, (i : Int)) = D funsF (cells.set k w) (0, (i : Int)) ↔ ¬ (k < i ∧ cells[k] ≠ w) := by
  rw [isW_iff] at hw1 hw2
  match i, hi with
  | 0, _ => rw [show ((0, ((0 : Nat) : Int)) : Key) = (0, 0) from rfl, D_zero, D_zero]; simp
  | j + 1, hi =>
    have hjs : j < (cells.set k w).length := by rw [List.length_set]; omega
    rw [D_step hl (by omega), D_step (by rw [List.length_set]; exact hl) hjs, psum_set cells k hk w j, List.getElem_set]
    simp only [List.cons.injEq, cellD, gotD, Dp.mk.injEq, true_and, and_true]
    by_cases e1 : k = j
    · subst e1
      rw [if_pos rfl, if_neg (by omega)]
      simp
    · rw [if_neg e1]
      by_cases e2 : k < j
      · rw [if_pos e2]
        simp only [true_and]
        unfold wrap32
        omega
      · rw [if_neg e2]
        simp
        omega
def wantL (k n : Nat) (b : Bool) : List Key := if b then (List.range (n - k)).map fun j : Nat => ((0 : Int), ((k + 1 + j : Nat) : Int)) else []
theorem sums_law {cells : List Int} {k : Nat} {w : Int} (h1 : 1 ≤ cells.length) (hl : cells.length ≤ 60) (hw : ∀ c ∈ cells, isW c = true) (hk : k < cells.length) (hw2 : isW w = true) :
    ∃ r0 r1 : Rnd, playS funsF cells (0, (cells.length : Int)) [[], [((k : Int), w)]] = ([r0, r1], 0) ∧ r0.word = wrap32 (psum cells cells.length) ∧ r0.kept.length = cells.length + 1 ∧ r1.word = wrap32 (psum cells cells.length - cells[k] + w) ∧ r1.again = wantL k cells.length (decide (cells[k] ≠ w)) ∧ r1.kept.length + r1.again.length = cells.length + 1 := by
  have hck : checkS funsF = 0 := by decide +kernel
  have hfl : (funsF.length : Int) = 2 := rfl
  have hask : ∀ c : List Int, c.length = cells.length → (∀ x ∈ c, isW x = true) → askedS funsF c (0, (cells.length : Int)) = 0 := fun c hc hcw => by
    unfold askedS
    rw [if_pos hck, okCells_iff.2 ⟨⟨by omega, by omega⟩, hcw⟩]
    unfold okTop
    rw [hfl]
    simp
    omega
  have ha := hask cells rfl hw
  have hs : ∀ x ∈ cells.set k w, isW x = true := fun x hx => by
    rcases List.mem_or_eq_of_mem_set hx with h | h
    · exact hw x h
    · rw [h]; exact hw2
  have hb := hask (cells.set k w) (by simp) hs
  obtain ⟨ta, wa, _⟩ := tra_of ha
  obtain ⟨tb, wb, _⟩ := tra_of hb
  have ka := tra_keys (by omega) ta
  have tb' : Tra funsF (cells.set k w) (0, ((cells.set k w).length : Int)) (traceS funsF (cells.set k w) (0, (cells.length : Int))) := by rw [List.length_set]; exact tb
  have kb := tra_keys (by rw [List.length_set]; omega) tb'
  rw [List.length_set] at kb
  generalize hA : traceS funsF cells (0, (cells.length : Int)) = A at ta ka
  generalize hB : traceS funsF (cells.set k w) (0, (cells.length : Int)) = B at tb kb
  have hAl : A.length = cells.length + 1 := by
    have := congrArg List.length ka
    simpa [keysN, ks] using this
  have hBl : B.length = cells.length + 1 := by
    have := congrArg List.length kb
    simpa [keysN, ks] using this
  have hag : keysN (B.filter (againB A)) = wantL k cells.length (decide (cells[k] ≠ w)) := by
    refine kup_ext (keysN_up tb.up _) ?_ fun q => ?_
    · unfold wantL KUp
      split
      · rw [List.pairwise_map]
        refine List.pairwise_lt_range.imp fun {a b} h => ?_
        rw [kLt_iff]; right; exact ⟨rfl, by simp only; omega⟩
      · exact List.Pairwise.nil
    · have hmem : q ∈ wantL k cells.length (decide (cells[k] ≠ w)) ↔ ∃ i : Nat, i ≤ cells.length ∧ q = (0, (i : Int)) ∧ (k < i ∧ cells[k] ≠ w) := by
        unfold wantL
        by_cases e : cells[k] = w
        · simp [e]
        · rw [if_pos (by simpa using e), List.mem_map]
          constructor
          · rintro ⟨j, hj, rfl⟩
            have := List.mem_range.1 hj
            exact ⟨k + 1 + j, by omega, rfl, by omega, e⟩
          · rintro ⟨i, hi, rfl, h2, _⟩
            exact ⟨i - (k + 1), List.mem_range.2 (by omega), by rw [show k + 1 + (i - (k + 1)) = i by omega]⟩
      rw [hmem]
      constructor
      · intro hq
        obtain ⟨x, hx, rfl⟩ := List.mem_map.1 hq
        obtain ⟨hx1, hx2⟩ := List.mem_filter.1 hx
        have hxk : x.key ∈ ks (cells.length + 1) := by rw [← kb]; exact List.mem_map_of_mem hx1
        obtain ⟨i, hi, hxi⟩ := mem_ks.1 hxk
        have hha : hasN A x.key = true := hasN_iff.2 (by rw [ka]; exact hxk)
        obtain ⟨y, hy, _, hyf, _, hyd⟩ := ta.find hha
        obtain ⟨_, _, _, _, _, hxd, _⟩ := tb.ok x hx1
        unfold againB at hx2
        rw [hyf] at hx2
        simp only [Bool.not_eq_true', decide_eq_false_iff_not] at hx2
        rw [hyd, hxd, hxi, D_set (by omega) hk (hw _ (List.getElem_mem hk)) hw2 (by omega)] at hx2
        exact ⟨i, by omega, hxi, Classical.not_not.1 hx2⟩
      · rintro ⟨i, hi, rfl, hd⟩
        have hkb : ((0, (i : Int)) : Key) ∈ ks (cells.length + 1) := mem_ks.2 ⟨i, by omega, rfl⟩
        obtain ⟨x, hx, hxk, _, _, hxd⟩ := tb.find (hasN_iff.2 (by rw [kb]; exact hkb))
        obtain ⟨y, hy, _, hyf, _, hyd⟩ := ta.find (hasN_iff.2 (by rw [ka]; exact hkb))
        rw [← hxk]
        refine List.mem_map_of_mem (List.mem_filter.2 ⟨hx, ?_⟩)
        unfold againB
        rw [hxk, hyf]
        simp only [Bool.not_eq_true', decide_eq_false_iff_not]
        rw [hyd, hxd, D_set (by omega) hk (hw _ (List.getElem_mem hk)) hw2 (by omega)]
        exact fun h => h hd
  have hnew : (B.filter fun x => !hasN A x.key) = [] := by
    rw [List.filter_eq_nil_iff]
    intro x hx
    have : hasN A x.key = true := hasN_iff.2 (by rw [ka, ← kb]; exact List.mem_map_of_mem hx)
    rw [this]; simp
  have h3 := three (a := A) (b := B)
  rw [hnew, hBl] at h3
  refine ⟨againstS A A (V funsF cells (0, (cells.length : Int))), againstS A B (V funsF (cells.set k w) (0, (cells.length : Int))), ?_, V_sum (by omega) _ (Nat.le_refl _), ?_, ?_, hag, ?_⟩
  · unfold playS
    rw [if_pos ha, if_neg (by simp [longS]), if_pos (by
      simp only [List.all_cons, List.all_nil, Bool.and_true, Bool.true_and]
      rw [okEdit_iff]; exact ⟨by simp only; omega, by simp only; omega, hw2⟩)]
    have e1 : editS cells [] = cells := rfl
    have e2 : editS cells [((k : Int), w)] = cells.set k w := rfl
    simp only [roundsS, e1, e2, hA, hB]
    rw [wa, wb]
  · rw [against_self _ ta.up]; simp [keysN, hAl]
  · show V funsF (cells.set k w) (0, (cells.length : Int)) = _
    have := V_sum (cells := cells.set k w) (by rw [List.length_set]; omega) cells.length (by rw [List.length_set]; omega)
    rw [this, psum_set cells k hk w, if_pos hk]
    congr 1; omega
  · unfold againstS
    simp only [keysN, List.length_map] at h3 ⊢
    simp at h3
    omega
end Go.Proofs.YtdiacobmhkmljaaDoor
/- Sums of the first cells, walked. -/
namespace Go.Proofs.YtdiacobmhkmljaaDoor
open Go.Sl
variable {S : Nat → Prop} {w0 : World} {η : Heap}
structure WS where
 i : Nat
 a : Option Addr
 c : Nat
 g : Seg
theorem wrap_isW (n : Int) : isW (wrap32 n) = true := by
 rw [isW_iff]; have := wd_wrap n; unfold Wd at this; omega
theorem turn_nat (k : Int) {n : Nat} (h1 : 1 ≤ n) : ∃ κ : Nat, turnI k (n : Int) = (κ : Int) ∧ κ < n := by
 have h := turnI_range k (m := (n : Int)) (by omega)
 exact ⟨(turnI k (n : Int)).toNat, by omega, by omega⟩
theorem psum_bnd {l : List Int} (h : ∀ c ∈ l, isW c = true) : ∀ i, i ≤ l.length → -2147483648 * (i : Int) ≤ psum l i ∧ psum l i ≤ 2147483648 * (i : Int)
 | 0, _ => by simp [psum]
 | i + 1, hi => by
  have h1 := psum_bnd h i (by omega)
  have h2 := isW_iff.1 (h _ (List.getElem_mem (show i < l.length by omega)))
  rw [psum_succ (by omega)]
  omega
theorem nat_le_cast {κ j n : Nat} (hj : j ≤ n - κ) (h : ¬ ((κ + 1 + j : Nat) : Int) ≤ (n : Int)) : j = n - κ := by omega
def wf (κ : Nat) (j : Nat) : Key := ((0 : Int), ((κ + 1 + j : Nat) : Int))
set_option maxHeartbeats 2000000 in
theorem Wrap_fn {a : Option Addr} {xs : List Int} {c m : Nat} (hx : Row S w0 [] a (ints xs)) (hl : xs.length < 9223372036854775808) (hm : m < 1000) :
  Rt Tryd.prog 27 [.slice a xs.length c, .int .i64 (m : Int)].toArray S w0 η (fun v η' => ∃ oa oc og, v = .slice oa ((xs.take m).map wrap32).length oc ∧ OSl 3 1 (.slice oa ((xs.take m).map wrap32).length oc) ((xs.take m).map wrap32).length (ints ((xs.take m).map wrap32)) og ∧ η' = og :: η) := by
 have hF := open_wide
 refine Rt.of (fn := Tryd.f27) Tryd.func27 rfl rfl ?_
 refine T.seq ?_
 refine T.region ?_
 refine TL.assign hF rfl rfl ?_
 refine TL.nil ?_
 refine TQ.then_n ?_
 refine T.seq ?_
 refine T.region ?_
 refine TL.buildSlice hF rfl (cs := #[]) (e := 3) (fun w => by kernel_rfl) rfl (fun b7 => ?_)
 refine TL.assign hF rfl rfl ?_
 refine TL.nil ?_
 refine TQ.then_n ?_
 refine T.seq ?_
 refine T.seq ?_
 refine T.region ?_
 refine TL.assign hF rfl rfl ?_
 refine TL.nil ?_
 refine TQ.then_n ?_
 refine T.block ?_
 refine T.loop (ι := WS) (fun s => s.i ≤ xs.length ∧ s.i ≤ m ∧ OSl 3 1 (.slice s.a s.i s.c) s.i (ints ((xs.take s.i).map wrap32)) s.g) (fun s => [(0, .slice a xs.length c), (1, .int .i64 (m : Int)), (4, .slice none 0 0), (5, .slice s.a s.i s.c), (6, .int .i64 (s.i : Int))]) (fun s => s.g :: η) (fun s => xs.length - s.i) ⟨0, some ⟨b7, 0, none⟩, 0, [(b7, Obj.cells #[] 3 (0, 0))]⟩ ⟨Nat.zero_le _, Nat.zero_le _, osl_empty⟩ ⟨rfl, rfl, rfl, rfl, rfl, trivial⟩ rfl ?_
 rintro ⟨i, oa, oc, og⟩ ⟨hi, him, ho⟩
 dsimp only at hi him ho
 refine T.seq ?_
 refine T.seq ?_
 refine T.region ?_
 refine TL.move hF rfl rfl ?_
 refine TL.move hF rfl rfl ?_
 refine TL.len hF rfl rfl ?_
 refine TL.bin hF rfl rfl rfl rfl ?_
 refine TL.move hF rfl rfl ?_
 refine TL.gd (t := 12) rfl (fun g3_12 => ?_) (fun g3_12 => ?_)
 ·refine TL.on rfl rfl rfl (decide_eq_true g3_12) ?_
  refine TL.move hF rfl rfl ?_
  refine TL.on rfl rfl rfl (decide_eq_true g3_12) ?_
  refine TL.move hF rfl rfl ?_
  refine TL.on rfl rfl rfl (decide_eq_true g3_12) ?_
  refine TL.bin hF rfl rfl rfl rfl ?_
  refine TL.pickT hF rfl (decide_eq_true g3_12) rfl rfl ?_
  refine TL.nil ?_
  refine TQ.then_n ?_
  first | refine T.cond_d rfl (fun ht16 => ?_) (fun ht16 => ?_) | refine T.cond _ rfl (fun ht16 => ?_) (fun ht16 => ?_)
  ·refine T.skip ?_
   refine TQ.then_n ?_
   refine T.seq ?_
   refine T.block ?_
   refine T.region ?_
   refine TL.move hF rfl rfl ?_
   refine TL.move hF rfl rfl ?_
   refine TL.move hF rfl rfl ?_
   have hil : i < xs.length := by have h : (i : Int) < (xs.length : Int) := g3_12; omega
   refine TL.indexAddr hF rfl rfl (hx.adi (i := i) (by simpa using hil)) (by dsimp only; omega) (by dsimp only; omega) rfl ?_
   refine TL.load hF rfl (hx.ro.int (i := i) hil) rfl ?_
   refine TL.callV hF (Word_fn xs[i]) rfl rfl ?_
   refine TL.buildSlice hF rfl (cs := #[.int .i64 (wrap32 xs[i])]) (e := 3) (fun w => by kernel_rfl) rfl (fun bq => ?_)
   refine TL.append hF 1 rfl rfl rfl ho (row_own (cs := [.int .i64 (wrap32 xs[i])]) (e := 3) (by simp)).src rfl rfl (by simp [Value.oneCell']) (by omega) (by omega) rfl (fun pa pc pg ph => ?_)
   have htk : (xs.take (i + 1)).map wrap32 = (xs.take i).map wrap32 ++ [wrap32 xs[i]] := by rw [List.take_succ_eq_append_getElem hil, List.map_append]; rfl
   rw [show ints ((xs.take i).map wrap32) ++ [.int .i64 (wrap32 xs[i])] = ints ((xs.take (i + 1)).map wrap32) by rw [htk]; simp [ints]] at ph
   refine TL.assign hF rfl rfl ?_
   refine TL.nil ?_
   refine TQ.block_n ?_
   refine TQ.then_n ?_
   refine T.region ?_
   refine TL.move hF rfl rfl ?_
   refine TL.add hF rfl rfl (by dsimp only; omega) (by dsimp only; omega) rfl ?_
   refine TL.assign hF rfl rfl ?_
   refine TL.nil ?_
   have him2 : i < m := by have h : (i : Int) < (m : Int) := ht16; omega
   refine TQ.pop ?_
   refine TQ.round ⟨i + 1, pa, pc, pg⟩ ⟨by dsimp only; omega, by dsimp only; omega, ph⟩ (by dsimp only; omega) ⟨rfl, rfl, rfl, rfl, rfl, trivial⟩ rfl
  ·refine T.exit ?_
   refine TQ.then_x ?_
   refine TQ.then_x ?_
   refine TQ.block_x ?_
   refine TQ.then_n ?_
   refine T.seq ?_
   refine T.region ?_
   refine TL.move hF rfl rfl ?_
   refine TL.assign hF rfl rfl ?_
   refine TL.nil ?_
   refine TQ.then_n ?_
   refine T.ret ?_
   have hn : i = ((xs.take m).map wrap32).length := by
    have h : ¬ (i : Int) < ((m : Int)) := ht16
    rw [List.length_map, List.length_take]; omega
   have hl2 : (xs.take i).map wrap32 = (xs.take m).map wrap32 := by
    rw [List.length_map, List.length_take] at hn
    rcases Nat.lt_or_ge m xs.length with h1 | h1
    ·rw [show i = m by omega]
    ·rw [List.take_of_length_le (show xs.length ≤ i by omega), List.take_of_length_le h1]
   refine TQ.rets [4] _ rfl rfl rfl ?_
   rw [hl2, hn] at ho
   rw [hn]
   exact ⟨oa, oc, og, rfl, ho, rfl⟩
 ·refine TL.off hF rfl rfl rfl (decide_eq_false g3_12) rfl ?_
  refine TL.off hF rfl rfl rfl (decide_eq_false g3_12) rfl ?_
  refine TL.off hF rfl rfl rfl (decide_eq_false g3_12) rfl ?_
  refine TL.pickF hF rfl (decide_eq_false g3_12) rfl rfl ?_
  refine TL.nil ?_
  refine TQ.then_n ?_
  refine T.cond_f rfl rfl ?_
  refine T.exit ?_
  refine TQ.then_x ?_
  refine TQ.then_x ?_
  refine TQ.block_x ?_
  refine TQ.then_n ?_
  refine T.seq ?_
  refine T.region ?_
  refine TL.move hF rfl rfl ?_
  refine TL.assign hF rfl rfl ?_
  refine TL.nil ?_
  refine TQ.then_n ?_
  refine T.ret ?_
  have hn : i = ((xs.take m).map wrap32).length := by
   have h : ¬ (i : Int) < ((xs.length : Int)) := g3_12
   rw [List.length_map, List.length_take]; omega
  have hl2 : (xs.take i).map wrap32 = (xs.take m).map wrap32 := by
   rw [List.length_map, List.length_take] at hn
   rcases Nat.lt_or_ge m xs.length with h1 | h1
   ·rw [show i = m by omega]
   ·rw [List.take_of_length_le (show xs.length ≤ i by omega), List.take_of_length_le h1]
  refine TQ.rets [4] _ rfl rfl rfl ?_
  rw [hl2, hn] at ho
  rw [hn]
  exact ⟨oa, oc, og, rfl, ho, rfl⟩
set_option maxHeartbeats 8000000 in
theorem TraceSums_fn {a : Option Addr} {xs : List Int} {c : Nat} {k word : Int} (hT : Tabs S w0) (hx : Row S w0 [] a (ints xs)) (hxl : xs.length < 9223372036854775808) (_hxb : ∀ x ∈ xs, I64 x) (_ : I64 k) (_ : I64 word) :
  Rt Tryd.prog 7 [.slice a xs.length c, .int .i64 k, .int .i64 word].toArray S w0 η (fun v _ => v = .bool true) := by
 have hF := open_wide
 refine Rt.of (fn := Tryd.f7) Tryd.func7 rfl rfl ?_
 refine T.seq ?_
 refine T.region ?_
 refine TL.assign hF rfl rfl ?_
 refine TL.nil ?_
 refine TQ.then_n ?_
 refine T.seq ?_
 refine T.region ?_
 refine TL.move hF rfl rfl ?_
 have hb := Back.refl S w0
 refine TL.call hF (Wrap_fn (m := 60) hx hxl (by decide)) rfl rfl ?_
 rintro _ _ ⟨ca, cc, cg, rfl, hso, rfl⟩
 obtain ⟨cells, hcel⟩ : ∃ cells, cells = (xs.take 60).map wrap32 := ⟨_, rfl⟩
 rw [← hcel] at hso ⊢
 have hl60 : cells.length ≤ 60 := by rw [hcel, List.length_map, List.length_take]; omega
 have hcw : ∀ c ∈ cells, isW c = true := fun c hc => by
  rw [hcel] at hc
  obtain ⟨z, _, rfl⟩ := List.mem_map.1 hc
  exact wrap_isW z
 have hcs : Row S w0 [cg] ca (ints cells) := OSl.row hso (by simp)
 refine TL.freeze ([cg]) rfl (fun S1 w1 hz1 => ?_)
 replace hb := hb.frz hz1
 replace hT := hT.old hz1
 replace hcs := hcs.frz hz1
 refine TL.assign hF rfl rfl ?_
 refine TL.nil ?_
 refine TQ.then_n ?_
 refine T.seq ?_
 refine T.seq ?_
 refine T.region ?_
 refine TL.move hF rfl rfl ?_
 refine TL.len hF rfl rfl ?_
 refine TL.bin hF rfl rfl rfl rfl ?_
 refine TL.nil ?_
 refine TQ.then_n ?_
 first | refine T.cond_d rfl (fun ht20 => ?_) (fun ht20 => ?_) | refine T.cond _ rfl (fun ht20 => ?_) (fun ht20 => ?_)
 ·refine T.seq ?_
  refine T.region ?_
  refine TL.call hF (traced_law hT) rfl rfl ?_
  rintro _ _ rfl
  refine TL.assign hF rfl rfl ?_
  refine TL.nil ?_
  refine TQ.then_n ?_
  refine T.ret ?_
  refine TQ.then_r ?_
  exact TQ.retsF [6] _ hb rfl rfl rfl (fun _ => rfl)
 ·refine T.skip ?_
  refine TQ.then_n ?_
  refine T.seq ?_
  refine T.region ?_
  refine TL.move hF rfl rfl ?_
  refine TL.move hF rfl rfl ?_
  refine TL.len hF rfl rfl ?_
  have h1 : 1 ≤ cells.length := by have h : ¬ (cells.length : Int) = 0 := ht20; omega
  obtain ⟨κ, hκ, hκl⟩ := turn_nat k h1
  have qt := Turn_fn (S := S1) (w0 := w1) (η := η) k (m := (cells.length : Int)) (by omega)
  rw [hκ] at qt
  refine TL.callV hF qt rfl rfl ?_
  refine TL.move hF rfl rfl ?_
  refine TL.callV hF (Word_fn word) rfl rfl ?_
  refine TL.assign hF rfl rfl ?_
  refine TL.assign hF rfl rfl ?_
  refine TL.nil ?_
  refine TQ.then_n ?_
  refine T.seq ?_
  refine T.region ?_
  refine TL.move hF rfl rfl ?_
  refine TL.len hF rfl rfl ?_
  refine TL.assign hF rfl rfl ?_
  refine TL.nil ?_
  refine TQ.then_n ?_
  refine T.seq ?_
  refine T.region ?_
  obtain ⟨w, hw⟩ : ∃ w, w = wrap32 word := ⟨_, rfl⟩
  have hww : isW w = true := by rw [hw]; exact wrap_isW _
  rw [← hw]
  refine TL.buildSlice hF rfl (cs := #[]) (e := 25) (fun w => by kernel_rfl) rfl (fun b30 => ?_)
  refine TL.assign hF rfl rfl ?_
  refine TL.assign hF rfl rfl ?_
  refine TL.assign hF rfl rfl ?_
  refine TL.nil ?_
  refine TQ.then_n ?_
  refine T.seq ?_
  refine T.seq ?_
  refine T.region ?_
  refine TL.assign hF rfl rfl ?_
  refine TL.nil ?_
  refine TQ.then_n ?_
  refine T.block ?_
  refine T.loop (ι := Nat) (fun i => i ≤ cells.length) (fun i => [(1, .int .i64 (κ : Int)), (2, .int .i64 w), (6, .bool false), (7, .slice ca cells.length cc), (8, .int .i64 (cells.length : Int)), (9, .int .i64 (psum cells i)), (11, .slice (some ⟨b30, 0, none⟩) 0 0), (12, .int .i64 (i : Int))]) (fun _ => [(b30, Obj.cells #[] 25 (0, 0))] :: η) (fun i => cells.length - i) 0 (Nat.zero_le _) ⟨rfl, rfl, rfl, rfl, rfl, rfl, rfl, rfl, trivial⟩ rfl ?_
  rintro i hi
  refine T.seq ?_
  refine T.seq ?_
  refine T.region ?_
  refine TL.move hF rfl rfl ?_
  refine TL.move hF rfl rfl ?_
  refine TL.bin hF rfl rfl rfl rfl ?_
  refine TL.nil ?_
  refine TQ.then_n ?_
  first | refine T.cond_d rfl (fun ht33 => ?_) (fun ht33 => ?_) | refine T.cond _ rfl (fun ht33 => ?_) (fun ht33 => ?_)
  ·refine T.skip ?_
   refine TQ.then_n ?_
   refine T.seq ?_
   refine T.block ?_
   refine T.region ?_
   refine TL.move hF rfl rfl ?_
   refine TL.move hF rfl rfl ?_
   refine TL.move hF rfl rfl ?_
   have hil : i < cells.length := by have h : (i : Int) < (cells.length : Int) := ht33; omega
   have hpb := psum_bnd hcw i hi
   have hcb := isW_iff.1 (hcw _ (List.getElem_mem hil))
   refine TL.indexAddr hF rfl rfl (hcs.adi (i := i) (by simpa using hil)) (by omega) (by omega) rfl ?_
   refine TL.load hF rfl (hcs.ro.int (i := i) hil) rfl ?_
   refine TL.add hF rfl rfl (by omega) (by omega) rfl ?_
   refine TL.assign hF rfl rfl ?_
   refine TL.nil ?_
   refine TQ.block_n ?_
   refine TQ.then_n ?_
   refine T.region ?_
   refine TL.move hF rfl rfl ?_
   refine TL.add hF rfl rfl (by omega) (by omega) rfl ?_
   refine TL.assign hF rfl rfl ?_
   refine TL.nil ?_
   refine TQ.round (i + 1) (by omega) (by omega) ⟨rfl, rfl, rfl, rfl, rfl, congrArg (fun z => some (Value.int .i64 z)) (psum_succ hil).symm, rfl, rfl, trivial⟩ rfl
  ·refine T.exit ?_
   refine TQ.then_x ?_
   refine TQ.then_x ?_
   refine TQ.block_x ?_
   refine TQ.then_n ?_
   refine T.seq ?_
   refine T.region ?_
   refine TL.move hF rfl rfl ?_
   refine TL.move hF rfl rfl ?_
   refine TL.move hF rfl rfl ?_
   have hie : i = cells.length := by have h : ¬ (i : Int) < (cells.length : Int) := ht33; omega
   subst hie
   have hpb := psum_bnd hcw _ (Nat.le_refl _)
   have hcb := isW_iff.1 (hcw _ (List.getElem_mem hκl))
   have hwb := isW_iff.1 hww
   refine TL.indexAddr hF rfl rfl (hcs.adi (i := κ) (by simpa using hκl)) (by omega) (by omega) rfl ?_
   refine TL.load hF rfl (hcs.ro.int (i := κ) hκl) rfl ?_
   refine TL.sub hF rfl rfl (by omega) (by omega) rfl ?_
   refine TL.move hF rfl rfl ?_
   refine TL.add hF rfl rfl (by omega) (by omega) rfl ?_
   refine TL.callV hF (Word_fn (psum cells cells.length - cells[κ] + w)) rfl rfl ?_
   refine TL.assign hF rfl rfl ?_
   refine TL.nil ?_
   refine TQ.then_n ?_
   refine T.seq ?_
   refine T.seq ?_
   refine T.region ?_
   refine TL.move hF rfl rfl ?_
   refine TL.add hF rfl rfl (by omega) (by omega) rfl ?_
   refine TL.assign hF rfl rfl ?_
   refine TL.nil ?_
   refine TQ.then_n ?_
   refine T.block ?_
   refine T.loop (ι := WS) (fun s => s.i ≤ cells.length - κ ∧ (cells[κ] = w → s.i = 0) ∧ OSl 25 2 (.slice s.a s.i s.c) s.i (((List.range s.i).map (wf κ)).flatMap kC) s.g) (fun s => [(1, .int .i64 (κ : Int)), (2, .int .i64 w), (6, .bool false), (7, .slice ca cells.length cc), (8, .int .i64 (cells.length : Int)), (9, .int .i64 (psum cells cells.length)), (10, .int .i64 (wrap32 (psum cells cells.length - cells[κ] + w))), (11, .slice s.a s.i s.c), (13, .int .i64 ((κ + 1 + s.i : Nat) : Int))]) (fun s => s.g :: η) (fun s => cells.length - κ - s.i) ⟨0, some ⟨b30, 0, none⟩, 0, [(b30, Obj.cells #[] 25 (0, 0))]⟩ ⟨Nat.zero_le _, fun _ => rfl, osl_empty⟩ ⟨rfl, rfl, rfl, rfl, rfl, rfl, rfl, rfl, rfl, trivial⟩ rfl ?_
   rintro ⟨j, wa, wc, wg⟩ ⟨hj, hj0, hwo⟩
   dsimp only at hj hj0 hwo
   refine T.seq ?_
   refine T.seq ?_
   refine T.region ?_
   refine TL.move hF rfl rfl ?_
   refine TL.move hF rfl rfl ?_
   refine TL.bin hF rfl rfl rfl rfl ?_
   refine TL.move hF rfl rfl ?_
   refine TL.gd (t := 56) rfl (fun g13_56 => ?_) (fun g13_56 => ?_)
   ·refine TL.on rfl rfl rfl (decide_eq_true g13_56) ?_
    refine TL.move hF rfl rfl ?_
    refine TL.on rfl rfl rfl (decide_eq_true g13_56) ?_
    refine TL.move hF rfl rfl ?_
    refine TL.on rfl rfl rfl (decide_eq_true g13_56) ?_
    refine TL.indexAddr hF rfl rfl (hcs.adi (i := κ) (by simpa using hκl)) (by omega) (by omega) rfl ?_
    refine TL.on rfl rfl rfl (decide_eq_true g13_56) ?_
    refine TL.load hF rfl (hcs.ro.int (i := κ) hκl) rfl ?_
    refine TL.on rfl rfl rfl (decide_eq_true g13_56) ?_
    refine TL.move hF rfl rfl ?_
    refine TL.on rfl rfl rfl (decide_eq_true g13_56) ?_
    refine TL.bin hF rfl rfl rfl rfl ?_
    refine TL.pickT hF rfl (decide_eq_true g13_56) rfl rfl ?_
    refine TL.nil ?_
    refine TQ.then_n ?_
    first | refine T.cond_d rfl (fun ht63 => ?_) (fun ht63 => ?_) | refine T.cond _ rfl (fun ht63 => ?_) (fun ht63 => ?_)
    ·refine T.skip ?_
     refine TQ.then_n ?_
     refine T.seq ?_
     refine T.block ?_
     refine T.region ?_
     refine TL.move hF rfl rfl ?_
     refine TL.move hF rfl rfl ?_
     refine TL.callV hF (at_fn 0 (((κ + 1 + j : Nat) : Int))) rfl rfl ?_
     refine TL.buildSlice hF rfl (cs := (kC (wf κ j)).toArray) (e := 25) (fun w => by kernel_rfl) rfl (fun bq => ?_)
     refine TL.append hF 1 rfl rfl rfl hwo (row_own (cs := kC (wf κ j)) (e := 25) (by simp)).src rfl rfl (kC1 _) (by omega) (by omega) rfl (fun pa pc pg ph => ?_)
     rw [flat_snoc, show (List.range j).map (wf κ) ++ [wf κ j] = (List.range (j + 1)).map (wf κ) by rw [List.range_succ, List.map_append]; rfl] at ph
     refine TL.assign hF rfl rfl ?_
     refine TL.nil ?_
     refine TQ.block_n ?_
     refine TQ.then_n ?_
     refine T.region ?_
     refine TL.move hF rfl rfl ?_
     refine TL.add hF rfl rfl (by dsimp only; omega) (by dsimp only; omega) rfl ?_
     refine TL.assign hF rfl rfl ?_
     refine TL.nil ?_
     have hjl : κ + 1 + j ≤ cells.length := by have h : ((κ + 1 + j : Nat) : Int) ≤ (cells.length : Int) := g13_56; omega
     refine TQ.pop ?_
     refine TQ.round ⟨j + 1, pa, pc, pg⟩ ⟨by dsimp only; omega, fun e => absurd e ht63, ph⟩ (by dsimp only; omega) ⟨rfl, rfl, rfl, rfl, rfl, rfl, rfl, rfl, congrArg (fun z => some (Value.int .i64 z)) (by dsimp only; omega), trivial⟩ rfl
    ·refine T.exit ?_
     refine TQ.then_x ?_
     refine TQ.then_x ?_
     refine TQ.block_x ?_
     refine TQ.then_n ?_
     refine T.seq ?_
     refine T.region ?_
     have hje : (List.range j).map (wf κ) = (wantL κ cells.length (decide (cells[κ] ≠ w))) := by
      unfold wantL
      by_cases e : cells[κ] = w
      ·rw [hj0 e, if_neg (by simpa using e)]; rfl
      ·rw [if_pos (by simpa using e)]
       have hjn : j = cells.length - κ := by
        first
         | exact nat_le_cast (κ := κ) hj g13_56
         | exact absurd (Classical.not_not.1 ht63) e
       rw [hjn]; rfl
     have hjw : j = (wantL κ cells.length (decide (cells[κ] ≠ w))).length := by rw [← hje]; simp
     rw [hje] at hwo
     clear hje hj hj0
     subst hjw
     have hwk : Row S1 w1 [wg] wa ((wantL κ cells.length (decide (cells[κ] ≠ w))).flatMap kC) := OSl.row hwo (by simp)
     refine TL.freeze ([wg]) rfl (fun S2 w2 hz2 => ?_)
     replace hb := hb.frz hz2
     replace hT := hT.old hz2
     replace hcs := hcs.old hz2
     replace hwk := hwk.frz hz2
     refine TL.call hF functions_fn rfl rfl ?_
     rintro _ _ ⟨fa, fc, fl, segs, rfl, hfs, hfx, rfl⟩
     refine TL.freeze (segs) rfl (fun S3 w3 hz3 => ?_)
     replace hb := hb.frz hz3
     replace hT := hT.old hz3
     replace hcs := hcs.old hz3
     replace hwk := hwk.old hz3
     replace hfs := hfs.frz hz3
     have hfl : fl.length < 9223372036854775808 := by
      have := congrArg List.length hfx
      rw [List.length_map] at this
      rw [this]; decide
     refine TL.move hF rfl rfl ?_
     refine TL.move hF rfl rfl ?_
     refine TL.callV hF (at_fn 0 (cells.length : Int)) rfl rfl ?_
     refine TL.move hF rfl rfl ?_
     refine TL.move hF rfl rfl ?_
     refine TL.build hF rfl (r := kV ((κ : Int), w)) (fun w => by kernel_rfl) rfl ?_
     refine TL.buildSlice hF rfl (cs := (kC ((κ : Int), w)).toArray) (e := 60) (fun w => by kernel_rfl) rfl (fun b79 => ?_)
     refine TL.buildSlice hF rfl (cs := #[.slice none 0 0, .slice (some ⟨b79, 0, none⟩) 1 1]) (e := 38) (fun w => by kernel_rfl) rfl (fun b80 => ?_)
     have hg : GL kC S3 w3 [[(b80, Obj.cells #[.slice none 0 0, .slice (some ⟨b79, 0, none⟩) 1 1] 38 (0, 0))], [(b79, Obj.cells (kC ((κ : Int), w)).toArray 60 (0, 0))]] (some ⟨b80, 0, none⟩) ([(none, [], 0), (some ⟨b79, 0, none⟩, [((κ : Int), w)], 1)] : List EH) := ⟨row_own (cs := [.slice none 0 0, .slice (some ⟨b79, 0, none⟩) 1 1]) (e := 38) (by simp), fun p hp => by
      simp only [List.mem_cons, List.not_mem_nil, or_false] at hp
      rcases hp with rfl | rfl
      ·exact Row.none
      ·exact row_own (cs := kC ((κ : Int), w)) (e := 60) (by simp)⟩
     obtain ⟨r0, r1, hpl, e1, e2, e3, e4, e5⟩ := sums_law h1 hl60 hcw hκl hww
     have q1 := Play_fr (η := η) (fc := fc) (cc := cc) (top := (0, (cells.length : Int))) (cells := cells) (rc := 2) [[(b80, Obj.cells #[.slice none 0 0, .slice (some ⟨b79, 0, none⟩) 1 1] 38 (0, 0))], [(b79, Obj.cells (kC ((κ : Int), w)).toArray 60 (0, 0))]] hT hfs hfl hcs (by omega) hg (by simp) (by simp)
     rw [show erounds ([(none, [], 0), (some ⟨b79, 0, none⟩, [((κ : Int), w)], 1)] : List EH) = [[], [((κ : Int), w)]] from rfl, hfx, hpl] at q1
     refine TL.call hF q1 rfl rfl ?_
     rintro _ _ ⟨aa, ac, lr, segp, rfl, hlr, hla, hlac, rfl⟩
     dsimp only at hlr
     obtain ⟨x, y, rfl, hx1, hx2⟩ := rnd2 hlr
     refine TL.freeze (segp) rfl (fun S4 w4 hz4 => ?_)
     replace hb := hb.frz hz4
     replace hT := hT.old hz4
     replace hcs := hcs.old hz4
     replace hwk := hwk.old hz4
     replace hfs := hfs.old hz4
     replace hla := hla.frz hz4
     have hm2 := hla.item y (by simp)
     have hwl : (wantL κ cells.length (decide (cells[κ] ≠ w))).length ≤ 61 := by rw [← e4]; omega
     have f1 : x.r.word = wrap32 (psum cells cells.length) := by rw [hx1, e1]
     have f2 : y.r.word = wrap32 (psum cells cells.length - cells[κ] + w) := by rw [hx2, e3]
     have f3 : y.r.again = (wantL κ cells.length (decide (cells[κ] ≠ w))) := by rw [hx2, e4]
     have f4 : (y.r.kept.length : Int) = (cells.length : Int) + 1 - ((wantL κ cells.length (decide (cells[κ] ≠ w))).length : Int) := by rw [hx2, ← e4]; omega
     have f5 : (x.r.kept.length : Int) = (cells.length : Int) + 1 := by rw [hx1, e2]; rfl
     have f6 : y.r.again.length < 2 ^ 63 := by rw [f3]; omega
     refine TL.move hF rfl rfl ?_
     refine TL.extract hF rfl rfl rfl ?_
     refine TL.extract hF rfl rfl rfl ?_
     refine TL.assign hF rfl rfl ?_
     refine TL.assign hF rfl rfl ?_
     refine TL.nil ?_
     refine TQ.then_n ?_
     refine T.seq ?_
     refine T.drawH 53 mixed ?_
     refine DH.pure (i := 0) [(15, _, none)] rfl rfl rfl rfl ⟨⟨rfl, by kernel_rfl⟩, trivial⟩ (fun _ ext => TL.move hF rfl rfl TL.fin) ?_
     refine DH.pure (i := 1) [(84, _, some 0)] rfl rfl rfl rfl ⟨⟨rfl, rfl, rfl⟩, trivial⟩ (fun _ ext => TL.bin hF rfl rfl rfl rfl TL.fin) ?_
     refine DH.pure (i := 2) [(85, _, some 1)] rfl rfl rfl rfl ⟨⟨rfl, rfl, rfl⟩, trivial⟩ (fun _ ext => TL.move hF rfl rfl TL.fin) ?_
     refine DH.pure (i := 3) [(14, _, none), (86, _, some 2)] rfl rfl rfl rfl ⟨⟨rfl, by kernel_rfl⟩, ⟨rfl, rfl, rfl⟩, trivial⟩ (fun _ ext => TL.on rfl rfl rfl rfl <| TL.move hF rfl rfl TL.fin) ?_
     refine DH.pure (i := 4) [(87, _, some 3), (86, _, some 2)] rfl rfl rfl rfl ⟨⟨rfl, rfl, rfl⟩, ⟨rfl, rfl, rfl⟩, trivial⟩ (fun _ ext => TL.on rfl rfl rfl rfl <| TL.len hF rfl rfl TL.fin) ?_
     refine DH.pure (i := 5) [(88, _, some 4), (86, _, some 2)] rfl rfl rfl rfl ⟨⟨rfl, rfl, rfl⟩, ⟨rfl, rfl, rfl⟩, trivial⟩ (fun _ ext => TL.on rfl rfl rfl rfl <| TL.bin hF rfl rfl rfl rfl TL.fin) ?_
     refine DH.pure (i := 6) [(86, _, some 2), (89, _, some 5)] rfl rfl rfl rfl ⟨⟨rfl, rfl, rfl⟩, ⟨rfl, rfl, rfl⟩, trivial⟩ (fun _ ext => TL.pickT hF rfl rfl rfl rfl TL.fin) ?_
     refine DH.pure (i := 7) [(90, _, some 6)] rfl rfl rfl rfl ⟨⟨rfl, rfl, rfl⟩, trivial⟩ (fun _ ext => TL.move hF rfl rfl TL.fin) ?_
     refine DH.pure (i := 8) [(14, _, none), (91, _, some 7)] rfl rfl rfl rfl ⟨⟨rfl, by kernel_rfl⟩, ⟨rfl, rfl, rfl⟩, trivial⟩ (fun _ ext => TL.on rfl rfl rfl (by first | rfl | simp) <| TL.move hF rfl rfl TL.fin) ?_
     refine DH.pure (i := 9) [(92, _, some 8), (91, _, some 7)] rfl rfl rfl rfl ⟨⟨rfl, rfl, rfl⟩, ⟨rfl, rfl, rfl⟩, trivial⟩ (fun _ ext => TL.on rfl rfl rfl (by first | rfl | simp) <| TL.indexAddr hF rfl rfl (hla.ad (i := 0) (by simp)) (by decide) (by simp) rfl TL.fin) ?_
     refine DH.pure (i := 10) [(93, _, some 9), (91, _, some 7)] rfl rfl rfl rfl ⟨⟨rfl, rfl, rfl⟩, ⟨rfl, rfl, rfl⟩, trivial⟩ (fun _ ext => TL.on rfl rfl rfl (by first | rfl | simp) <| TL.fieldAddr hF rfl rfl TL.fin) ?_
     refine DH.read (i := 11) [(94, _, some 10), (91, _, some 7)] rfl rfl rfl rfl ⟨⟨rfl, rfl, rfl⟩, ⟨rfl, rfl, rfl⟩, trivial⟩ (fun ext => TL.on rfl rfl rfl (by first | rfl | simp) <| TL.load hF rfl ((hla.atA (i := 0) (by simp) 0 _ rfl).up (by simp)) rfl TL.fin) ?_
     refine DH.pure (i := 12) [(9, _, none), (91, _, some 7)] rfl rfl rfl rfl ⟨⟨rfl, by kernel_rfl⟩, ⟨rfl, rfl, rfl⟩, trivial⟩ (fun _ ext => TL.on rfl rfl rfl (by first | rfl | simp) <| TL.move hF rfl rfl TL.fin) ?_
     refine DH.read (i := 13) [(96, _, some 12), (91, _, some 7)] rfl rfl rfl rfl ⟨⟨rfl, rfl, rfl⟩, ⟨rfl, rfl, rfl⟩, trivial⟩ (fun ext => TL.on rfl rfl rfl (by first | rfl | simp) <| TL.callV hF (Word_fn (psum cells cells.length)) rfl rfl TL.fin) ?_
     refine DH.pure (i := 14) [(95, _, some 11), (97, _, some 13), (91, _, some 7)] rfl rfl rfl rfl ⟨⟨rfl, rfl, rfl⟩, ⟨rfl, rfl, rfl⟩, ⟨rfl, rfl, rfl⟩, trivial⟩ (fun _ ext => TL.on rfl rfl rfl (by first | rfl | simp) <| TL.bin hF rfl rfl rfl rfl TL.fin) ?_
     refine DH.pure (i := 15) [(91, _, some 7), (98, _, some 14)] rfl rfl rfl rfl ⟨⟨rfl, rfl, rfl⟩, ⟨rfl, rfl, rfl⟩, trivial⟩ (fun _ ext => TL.pickT hF rfl (by first | rfl | simp) rfl rfl TL.fin) ?_
     refine DH.pure (i := 16) [(99, _, some 15)] rfl rfl rfl rfl ⟨⟨rfl, rfl, rfl⟩, trivial⟩ (fun _ ext => TL.move hF rfl rfl TL.fin) ?_
     refine DH.pure (i := 17) [(14, _, none), (100, _, some 16)] rfl rfl rfl rfl ⟨⟨rfl, by kernel_rfl⟩, ⟨rfl, rfl, rfl⟩, trivial⟩ (fun _ ext => TL.on rfl rfl rfl (decide_eq_true f1) <| TL.move hF rfl rfl TL.fin) ?_
     refine DH.pure (i := 18) [(101, _, some 17), (100, _, some 16)] rfl rfl rfl rfl ⟨⟨rfl, rfl, rfl⟩, ⟨rfl, rfl, rfl⟩, trivial⟩ (fun _ ext => TL.on rfl rfl rfl (decide_eq_true f1) <| TL.indexAddr hF rfl rfl (hla.ad (i := 1) (by simp)) (by decide) (by simp) rfl TL.fin) ?_
     refine DH.pure (i := 19) [(102, _, some 18), (100, _, some 16)] rfl rfl rfl rfl ⟨⟨rfl, rfl, rfl⟩, ⟨rfl, rfl, rfl⟩, trivial⟩ (fun _ ext => TL.on rfl rfl rfl (decide_eq_true f1) <| TL.fieldAddr hF rfl rfl TL.fin) ?_
     refine DH.read (i := 20) [(103, _, some 19), (100, _, some 16)] rfl rfl rfl rfl ⟨⟨rfl, rfl, rfl⟩, ⟨rfl, rfl, rfl⟩, trivial⟩ (fun ext => TL.on rfl rfl rfl (decide_eq_true f1) <| TL.load hF rfl ((hla.atA (i := 1) (by simp) 0 _ rfl).up (by simp)) rfl TL.fin) ?_
     refine DH.pure (i := 21) [(10, _, none), (100, _, some 16)] rfl rfl rfl rfl ⟨⟨rfl, by kernel_rfl⟩, ⟨rfl, rfl, rfl⟩, trivial⟩ (fun _ ext => TL.on rfl rfl rfl (decide_eq_true f1) <| TL.move hF rfl rfl TL.fin) ?_
     refine DH.pure (i := 22) [(104, _, some 20), (105, _, some 21), (100, _, some 16)] rfl rfl rfl rfl ⟨⟨rfl, rfl, rfl⟩, ⟨rfl, rfl, rfl⟩, ⟨rfl, rfl, rfl⟩, trivial⟩ (fun _ ext => TL.on rfl rfl rfl (decide_eq_true f1) <| TL.bin hF rfl rfl rfl rfl TL.fin) ?_
     refine DH.pure (i := 23) [(100, _, some 16), (106, _, some 22)] rfl rfl rfl rfl ⟨⟨rfl, rfl, rfl⟩, ⟨rfl, rfl, rfl⟩, trivial⟩ (fun _ ext => TL.pickT hF rfl (decide_eq_true f1) rfl rfl TL.fin) ?_
     refine DH.pure (i := 24) [(107, _, some 23)] rfl rfl rfl rfl ⟨⟨rfl, rfl, rfl⟩, trivial⟩ (fun _ ext => TL.move hF rfl rfl TL.fin) ?_
     refine DH.pure (i := 25) [(14, _, none), (108, _, some 24)] rfl rfl rfl rfl ⟨⟨rfl, by kernel_rfl⟩, ⟨rfl, rfl, rfl⟩, trivial⟩ (fun _ ext => TL.on rfl rfl rfl (decide_eq_true f2) <| TL.move hF rfl rfl TL.fin) ?_
     refine DH.pure (i := 26) [(109, _, some 25), (108, _, some 24)] rfl rfl rfl rfl ⟨⟨rfl, rfl, rfl⟩, ⟨rfl, rfl, rfl⟩, trivial⟩ (fun _ ext => TL.on rfl rfl rfl (decide_eq_true f2) <| TL.indexAddr hF rfl rfl (hla.ad (i := 1) (by simp)) (by decide) (by simp) rfl TL.fin) ?_
     refine DH.pure (i := 27) [(110, _, some 26), (108, _, some 24)] rfl rfl rfl rfl ⟨⟨rfl, rfl, rfl⟩, ⟨rfl, rfl, rfl⟩, trivial⟩ (fun _ ext => TL.on rfl rfl rfl (decide_eq_true f2) <| TL.fieldAddr hF rfl rfl TL.fin) ?_
     refine DH.read (i := 28) [(111, _, some 27), (108, _, some 24)] rfl rfl rfl rfl ⟨⟨rfl, rfl, rfl⟩, ⟨rfl, rfl, rfl⟩, trivial⟩ (fun ext => TL.on rfl rfl rfl (decide_eq_true f2) <| TL.load hF rfl ((hla.atA (i := 1) (by simp) 1 _ rfl).up (by simp)) rfl TL.fin) ?_
     refine DH.pure (i := 29) [(11, _, none), (108, _, some 24)] rfl rfl rfl rfl ⟨⟨rfl, by kernel_rfl⟩, ⟨rfl, rfl, rfl⟩, trivial⟩ (fun _ ext => TL.on rfl rfl rfl (decide_eq_true f2) <| TL.move hF rfl rfl TL.fin) ?_
     refine DH.read (i := 30) [(112, _, some 28), (113, _, some 29), (108, _, some 24)] rfl rfl rfl rfl ⟨⟨rfl, rfl, rfl⟩, ⟨rfl, rfl, rfl⟩, ⟨rfl, rfl, rfl⟩, trivial⟩ (fun ext => TL.on rfl rfl rfl (decide_eq_true f2) <| TL.callV hF (keysL_fn (Row.ro hm2.r1) hwk.ro f6) rfl rfl TL.fin) ?_
     refine DH.pure (i := 31) [(108, _, some 24), (114, _, some 30)] rfl rfl rfl rfl ⟨⟨rfl, rfl, rfl⟩, ⟨rfl, rfl, rfl⟩, trivial⟩ (fun _ ext => TL.pickT hF rfl (decide_eq_true f2) rfl rfl TL.fin) ?_
     refine DH.pure (i := 32) [(115, _, some 31)] rfl rfl rfl rfl ⟨⟨rfl, rfl, rfl⟩, trivial⟩ (fun _ ext => TL.move hF rfl rfl TL.fin) ?_
     refine DH.pure (i := 33) [(14, _, none), (116, _, some 32)] rfl rfl rfl rfl ⟨⟨rfl, by kernel_rfl⟩, ⟨rfl, rfl, rfl⟩, trivial⟩ (fun _ ext => TL.on rfl rfl rfl (decide_eq_true f3) <| TL.move hF rfl rfl TL.fin) ?_
     refine DH.pure (i := 34) [(117, _, some 33), (116, _, some 32)] rfl rfl rfl rfl ⟨⟨rfl, rfl, rfl⟩, ⟨rfl, rfl, rfl⟩, trivial⟩ (fun _ ext => TL.on rfl rfl rfl (decide_eq_true f3) <| TL.indexAddr hF rfl rfl (hla.ad (i := 1) (by simp)) (by decide) (by simp) rfl TL.fin) ?_
     refine DH.pure (i := 35) [(118, _, some 34), (116, _, some 32)] rfl rfl rfl rfl ⟨⟨rfl, rfl, rfl⟩, ⟨rfl, rfl, rfl⟩, trivial⟩ (fun _ ext => TL.on rfl rfl rfl (decide_eq_true f3) <| TL.fieldAddr hF rfl rfl TL.fin) ?_
     refine DH.read (i := 36) [(119, _, some 35), (116, _, some 32)] rfl rfl rfl rfl ⟨⟨rfl, rfl, rfl⟩, ⟨rfl, rfl, rfl⟩, trivial⟩ (fun ext => TL.on rfl rfl rfl (decide_eq_true f3) <| TL.load hF rfl ((hla.atA (i := 1) (by simp) 3 _ rfl).up (by simp)) rfl TL.fin) ?_
     refine DH.pure (i := 37) [(120, _, some 36), (116, _, some 32)] rfl rfl rfl rfl ⟨⟨rfl, rfl, rfl⟩, ⟨rfl, rfl, rfl⟩, trivial⟩ (fun _ ext => TL.on rfl rfl rfl (decide_eq_true f3) <| TL.len hF rfl rfl TL.fin) ?_
     refine DH.pure (i := 38) [(8, _, none), (116, _, some 32)] rfl rfl rfl rfl ⟨⟨rfl, by kernel_rfl⟩, ⟨rfl, rfl, rfl⟩, trivial⟩ (fun _ ext => TL.on rfl rfl rfl (decide_eq_true f3) <| TL.move hF rfl rfl TL.fin) ?_
     refine DH.pure (i := 39) [(122, _, some 38), (116, _, some 32)] rfl rfl rfl rfl ⟨⟨rfl, rfl, rfl⟩, ⟨rfl, rfl, rfl⟩, trivial⟩ (fun _ ext => TL.on rfl rfl rfl (decide_eq_true f3) <| TL.add hF rfl rfl (by omega) (by omega) rfl TL.fin) ?_
     refine DH.pure (i := 40) [(11, _, none), (116, _, some 32)] rfl rfl rfl rfl ⟨⟨rfl, by kernel_rfl⟩, ⟨rfl, rfl, rfl⟩, trivial⟩ (fun _ ext => TL.on rfl rfl rfl (decide_eq_true f3) <| TL.move hF rfl rfl TL.fin) ?_
     refine DH.pure (i := 41) [(124, _, some 40), (116, _, some 32)] rfl rfl rfl rfl ⟨⟨rfl, rfl, rfl⟩, ⟨rfl, rfl, rfl⟩, trivial⟩ (fun _ ext => TL.on rfl rfl rfl (decide_eq_true f3) <| TL.len hF rfl rfl TL.fin) ?_
     refine DH.pure (i := 42) [(123, _, some 39), (125, _, some 41), (116, _, some 32)] rfl rfl rfl rfl ⟨⟨rfl, rfl, rfl⟩, ⟨rfl, rfl, rfl⟩, ⟨rfl, rfl, rfl⟩, trivial⟩ (fun _ ext => TL.on rfl rfl rfl (decide_eq_true f3) <| TL.sub hF rfl rfl (by dsimp only; omega) (by dsimp only; omega) rfl TL.fin) ?_
     refine DH.pure (i := 43) [(121, _, some 37), (126, _, some 42), (116, _, some 32)] rfl rfl rfl rfl ⟨⟨rfl, rfl, rfl⟩, ⟨rfl, rfl, rfl⟩, ⟨rfl, rfl, rfl⟩, trivial⟩ (fun _ ext => TL.on rfl rfl rfl (decide_eq_true f3) <| TL.bin hF rfl rfl rfl rfl TL.fin) ?_
     refine DH.pure (i := 44) [(116, _, some 32), (127, _, some 43)] rfl rfl rfl rfl ⟨⟨rfl, rfl, rfl⟩, ⟨rfl, rfl, rfl⟩, trivial⟩ (fun _ ext => TL.pickT hF rfl (decide_eq_true f3) rfl rfl TL.fin) ?_
     refine DH.pure (i := 45) [(128, _, some 44)] rfl rfl rfl rfl ⟨⟨rfl, rfl, rfl⟩, trivial⟩ (fun _ ext => TL.move hF rfl rfl TL.fin) ?_
     refine DH.pure (i := 46) [(14, _, none), (129, _, some 45)] rfl rfl rfl rfl ⟨⟨rfl, by kernel_rfl⟩, ⟨rfl, rfl, rfl⟩, trivial⟩ (fun _ ext => TL.on rfl rfl rfl (decide_eq_true f4) <| TL.move hF rfl rfl TL.fin) ?_
     refine DH.pure (i := 47) [(130, _, some 46), (129, _, some 45)] rfl rfl rfl rfl ⟨⟨rfl, rfl, rfl⟩, ⟨rfl, rfl, rfl⟩, trivial⟩ (fun _ ext => TL.on rfl rfl rfl (decide_eq_true f4) <| TL.indexAddr hF rfl rfl (hla.ad (i := 0) (by simp)) (by decide) (by simp) rfl TL.fin) ?_
     refine DH.pure (i := 48) [(131, _, some 47), (129, _, some 45)] rfl rfl rfl rfl ⟨⟨rfl, rfl, rfl⟩, ⟨rfl, rfl, rfl⟩, trivial⟩ (fun _ ext => TL.on rfl rfl rfl (decide_eq_true f4) <| TL.fieldAddr hF rfl rfl TL.fin) ?_
     refine DH.read (i := 49) [(132, _, some 48), (129, _, some 45)] rfl rfl rfl rfl ⟨⟨rfl, rfl, rfl⟩, ⟨rfl, rfl, rfl⟩, trivial⟩ (fun ext => TL.on rfl rfl rfl (decide_eq_true f4) <| TL.load hF rfl ((hla.atA (i := 0) (by simp) 3 _ rfl).up (by simp)) rfl TL.fin) ?_
     refine DH.pure (i := 50) [(133, _, some 49), (129, _, some 45)] rfl rfl rfl rfl ⟨⟨rfl, rfl, rfl⟩, ⟨rfl, rfl, rfl⟩, trivial⟩ (fun _ ext => TL.on rfl rfl rfl (decide_eq_true f4) <| TL.len hF rfl rfl TL.fin) ?_
     refine DH.pure (i := 51) [(8, _, none), (129, _, some 45)] rfl rfl rfl rfl ⟨⟨rfl, by kernel_rfl⟩, ⟨rfl, rfl, rfl⟩, trivial⟩ (fun _ ext => TL.on rfl rfl rfl (decide_eq_true f4) <| TL.move hF rfl rfl TL.fin) ?_
     refine DH.pure (i := 52) [(135, _, some 51), (129, _, some 45)] rfl rfl rfl rfl ⟨⟨rfl, rfl, rfl⟩, ⟨rfl, rfl, rfl⟩, trivial⟩ (fun _ ext => TL.on rfl rfl rfl (decide_eq_true f4) <| TL.add hF rfl rfl (by omega) (by omega) rfl TL.fin) ?_
     refine DH.done [(136, _), (135, _), (134, _), (133, _), (132, _), (131, _), (130, _), (129, _), (128, _), (127, _), (126, _), (125, _), (124, _), (123, _), (122, _), (121, _), (120, _), (119, _), (118, _), (117, _), (116, _), (115, _), (114, _), (113, _), (112, _), (111, _), (110, _), (109, _), (108, _), (107, _), (106, _), (105, _), (104, _), (103, _), (102, _), (101, _), (100, _), (99, _), (98, _), (97, _), (96, _), (95, _), (94, _), (93, _), (92, _), (91, _), (90, _), (89, _), (88, _), (87, _), (86, _), (85, _), (84, _)] [_, _, _, _, _, _] (by kernel_rfl) (by kernel_rfl) (by kernel_rfl) (by kernel_rfl) rfl rfl ?_
     refine TL.on rfl rfl rfl (decide_eq_true f4) ?_
     refine TL.bin hF rfl rfl rfl rfl ?_
     refine TL.pickT hF rfl (decide_eq_true f4) rfl rfl ?_
     refine TL.move hF rfl rfl ?_
     refine TL.on rfl rfl rfl (decide_eq_true f5) ?_
     refine TL.call hF (traced_law hT) rfl rfl ?_
     rintro _ _ rfl
     refine TL.pickT hF rfl (decide_eq_true f5) rfl rfl ?_
     refine TL.assign hF rfl rfl ?_
     refine TL.nil ?_
     refine TQ.then_n ?_
     refine T.ret ?_
     exact TQ.retsF [6] _ hb rfl rfl rfl (fun _ => rfl)
   ·refine TL.off hF rfl rfl rfl (decide_eq_false g13_56) rfl ?_
    refine TL.off hF rfl rfl rfl (decide_eq_false g13_56) rfl ?_
    refine TL.off hF rfl rfl rfl (decide_eq_false g13_56) rfl ?_
    refine TL.off hF rfl rfl rfl (decide_eq_false g13_56) rfl ?_
    refine TL.off hF rfl rfl rfl (decide_eq_false g13_56) rfl ?_
    refine TL.off hF rfl rfl rfl (decide_eq_false g13_56) rfl ?_
    refine TL.pickF hF rfl (decide_eq_false g13_56) rfl rfl ?_
    refine TL.nil ?_
    refine TQ.then_n ?_
    refine T.cond_f rfl rfl ?_
    refine T.exit ?_
    refine TQ.then_x ?_
    refine TQ.then_x ?_
    refine TQ.block_x ?_
    refine TQ.then_n ?_
    refine T.seq ?_
    refine T.region ?_
    have hje : (List.range j).map (wf κ) = (wantL κ cells.length (decide (cells[κ] ≠ w))) := by
     unfold wantL
     by_cases e : cells[κ] = w
     ·rw [hj0 e, if_neg (by simpa using e)]; rfl
     ·rw [if_pos (by simpa using e)]
      have hjn : j = cells.length - κ := by
       first
        | exact nat_le_cast (κ := κ) hj g13_56
        | exact absurd (Classical.not_not.1 ht63) e
      rw [hjn]; rfl
    have hjw : j = (wantL κ cells.length (decide (cells[κ] ≠ w))).length := by rw [← hje]; simp
    rw [hje] at hwo
    clear hje hj hj0
    subst hjw
    have hwk : Row S1 w1 [wg] wa ((wantL κ cells.length (decide (cells[κ] ≠ w))).flatMap kC) := OSl.row hwo (by simp)
    refine TL.freeze ([wg]) rfl (fun S2 w2 hz2 => ?_)
    replace hb := hb.frz hz2
    replace hT := hT.old hz2
    replace hcs := hcs.old hz2
    replace hwk := hwk.frz hz2
    refine TL.call hF functions_fn rfl rfl ?_
    rintro _ _ ⟨fa, fc, fl, segs, rfl, hfs, hfx, rfl⟩
    refine TL.freeze (segs) rfl (fun S3 w3 hz3 => ?_)
    replace hb := hb.frz hz3
    replace hT := hT.old hz3
    replace hcs := hcs.old hz3
    replace hwk := hwk.old hz3
    replace hfs := hfs.frz hz3
    have hfl : fl.length < 9223372036854775808 := by
     have := congrArg List.length hfx
     rw [List.length_map] at this
     rw [this]; decide
    refine TL.move hF rfl rfl ?_
    refine TL.move hF rfl rfl ?_
    refine TL.callV hF (at_fn 0 (cells.length : Int)) rfl rfl ?_
    refine TL.move hF rfl rfl ?_
    refine TL.move hF rfl rfl ?_
    refine TL.build hF rfl (r := kV ((κ : Int), w)) (fun w => by kernel_rfl) rfl ?_
    refine TL.buildSlice hF rfl (cs := (kC ((κ : Int), w)).toArray) (e := 60) (fun w => by kernel_rfl) rfl (fun b79 => ?_)
    refine TL.buildSlice hF rfl (cs := #[.slice none 0 0, .slice (some ⟨b79, 0, none⟩) 1 1]) (e := 38) (fun w => by kernel_rfl) rfl (fun b80 => ?_)
    have hg : GL kC S3 w3 [[(b80, Obj.cells #[.slice none 0 0, .slice (some ⟨b79, 0, none⟩) 1 1] 38 (0, 0))], [(b79, Obj.cells (kC ((κ : Int), w)).toArray 60 (0, 0))]] (some ⟨b80, 0, none⟩) ([(none, [], 0), (some ⟨b79, 0, none⟩, [((κ : Int), w)], 1)] : List EH) := ⟨row_own (cs := [.slice none 0 0, .slice (some ⟨b79, 0, none⟩) 1 1]) (e := 38) (by simp), fun p hp => by
     simp only [List.mem_cons, List.not_mem_nil, or_false] at hp
     rcases hp with rfl | rfl
     ·exact Row.none
     ·exact row_own (cs := kC ((κ : Int), w)) (e := 60) (by simp)⟩
    obtain ⟨r0, r1, hpl, e1, e2, e3, e4, e5⟩ := sums_law h1 hl60 hcw hκl hww
    have q1 := Play_fr (η := η) (fc := fc) (cc := cc) (top := (0, (cells.length : Int))) (cells := cells) (rc := 2) [[(b80, Obj.cells #[.slice none 0 0, .slice (some ⟨b79, 0, none⟩) 1 1] 38 (0, 0))], [(b79, Obj.cells (kC ((κ : Int), w)).toArray 60 (0, 0))]] hT hfs hfl hcs (by omega) hg (by simp) (by simp)
    rw [show erounds ([(none, [], 0), (some ⟨b79, 0, none⟩, [((κ : Int), w)], 1)] : List EH) = [[], [((κ : Int), w)]] from rfl, hfx, hpl] at q1
    refine TL.call hF q1 rfl rfl ?_
    rintro _ _ ⟨aa, ac, lr, segp, rfl, hlr, hla, hlac, rfl⟩
    dsimp only at hlr
    obtain ⟨x, y, rfl, hx1, hx2⟩ := rnd2 hlr
    refine TL.freeze (segp) rfl (fun S4 w4 hz4 => ?_)
    replace hb := hb.frz hz4
    replace hT := hT.old hz4
    replace hcs := hcs.old hz4
    replace hwk := hwk.old hz4
    replace hfs := hfs.old hz4
    replace hla := hla.frz hz4
    have hm2 := hla.item y (by simp)
    have hwl : (wantL κ cells.length (decide (cells[κ] ≠ w))).length ≤ 61 := by rw [← e4]; omega
    have f1 : x.r.word = wrap32 (psum cells cells.length) := by rw [hx1, e1]
    have f2 : y.r.word = wrap32 (psum cells cells.length - cells[κ] + w) := by rw [hx2, e3]
    have f3 : y.r.again = (wantL κ cells.length (decide (cells[κ] ≠ w))) := by rw [hx2, e4]
    have f4 : (y.r.kept.length : Int) = (cells.length : Int) + 1 - ((wantL κ cells.length (decide (cells[κ] ≠ w))).length : Int) := by rw [hx2, ← e4]; omega
    have f5 : (x.r.kept.length : Int) = (cells.length : Int) + 1 := by rw [hx1, e2]; rfl
    have f6 : y.r.again.length < 2 ^ 63 := by rw [f3]; omega
    refine TL.move hF rfl rfl ?_
    refine TL.extract hF rfl rfl rfl ?_
    refine TL.extract hF rfl rfl rfl ?_
    refine TL.assign hF rfl rfl ?_
    refine TL.assign hF rfl rfl ?_
    refine TL.nil ?_
    refine TQ.then_n ?_
    refine T.seq ?_
    refine T.drawH 53 mixed ?_
    refine DH.pure (i := 0) [(15, _, none)] rfl rfl rfl rfl ⟨⟨rfl, by kernel_rfl⟩, trivial⟩ (fun _ ext => TL.move hF rfl rfl TL.fin) ?_
    refine DH.pure (i := 1) [(84, _, some 0)] rfl rfl rfl rfl ⟨⟨rfl, rfl, rfl⟩, trivial⟩ (fun _ ext => TL.bin hF rfl rfl rfl rfl TL.fin) ?_
    refine DH.pure (i := 2) [(85, _, some 1)] rfl rfl rfl rfl ⟨⟨rfl, rfl, rfl⟩, trivial⟩ (fun _ ext => TL.move hF rfl rfl TL.fin) ?_
    refine DH.pure (i := 3) [(14, _, none), (86, _, some 2)] rfl rfl rfl rfl ⟨⟨rfl, by kernel_rfl⟩, ⟨rfl, rfl, rfl⟩, trivial⟩ (fun _ ext => TL.on rfl rfl rfl rfl <| TL.move hF rfl rfl TL.fin) ?_
    refine DH.pure (i := 4) [(87, _, some 3), (86, _, some 2)] rfl rfl rfl rfl ⟨⟨rfl, rfl, rfl⟩, ⟨rfl, rfl, rfl⟩, trivial⟩ (fun _ ext => TL.on rfl rfl rfl rfl <| TL.len hF rfl rfl TL.fin) ?_
    refine DH.pure (i := 5) [(88, _, some 4), (86, _, some 2)] rfl rfl rfl rfl ⟨⟨rfl, rfl, rfl⟩, ⟨rfl, rfl, rfl⟩, trivial⟩ (fun _ ext => TL.on rfl rfl rfl rfl <| TL.bin hF rfl rfl rfl rfl TL.fin) ?_
    refine DH.pure (i := 6) [(86, _, some 2), (89, _, some 5)] rfl rfl rfl rfl ⟨⟨rfl, rfl, rfl⟩, ⟨rfl, rfl, rfl⟩, trivial⟩ (fun _ ext => TL.pickT hF rfl rfl rfl rfl TL.fin) ?_
    refine DH.pure (i := 7) [(90, _, some 6)] rfl rfl rfl rfl ⟨⟨rfl, rfl, rfl⟩, trivial⟩ (fun _ ext => TL.move hF rfl rfl TL.fin) ?_
    refine DH.pure (i := 8) [(14, _, none), (91, _, some 7)] rfl rfl rfl rfl ⟨⟨rfl, by kernel_rfl⟩, ⟨rfl, rfl, rfl⟩, trivial⟩ (fun _ ext => TL.on rfl rfl rfl (by first | rfl | simp) <| TL.move hF rfl rfl TL.fin) ?_
    refine DH.pure (i := 9) [(92, _, some 8), (91, _, some 7)] rfl rfl rfl rfl ⟨⟨rfl, rfl, rfl⟩, ⟨rfl, rfl, rfl⟩, trivial⟩ (fun _ ext => TL.on rfl rfl rfl (by first | rfl | simp) <| TL.indexAddr hF rfl rfl (hla.ad (i := 0) (by simp)) (by decide) (by simp) rfl TL.fin) ?_
    refine DH.pure (i := 10) [(93, _, some 9), (91, _, some 7)] rfl rfl rfl rfl ⟨⟨rfl, rfl, rfl⟩, ⟨rfl, rfl, rfl⟩, trivial⟩ (fun _ ext => TL.on rfl rfl rfl (by first | rfl | simp) <| TL.fieldAddr hF rfl rfl TL.fin) ?_
    refine DH.read (i := 11) [(94, _, some 10), (91, _, some 7)] rfl rfl rfl rfl ⟨⟨rfl, rfl, rfl⟩, ⟨rfl, rfl, rfl⟩, trivial⟩ (fun ext => TL.on rfl rfl rfl (by first | rfl | simp) <| TL.load hF rfl ((hla.atA (i := 0) (by simp) 0 _ rfl).up (by simp)) rfl TL.fin) ?_
    refine DH.pure (i := 12) [(9, _, none), (91, _, some 7)] rfl rfl rfl rfl ⟨⟨rfl, by kernel_rfl⟩, ⟨rfl, rfl, rfl⟩, trivial⟩ (fun _ ext => TL.on rfl rfl rfl (by first | rfl | simp) <| TL.move hF rfl rfl TL.fin) ?_
    refine DH.read (i := 13) [(96, _, some 12), (91, _, some 7)] rfl rfl rfl rfl ⟨⟨rfl, rfl, rfl⟩, ⟨rfl, rfl, rfl⟩, trivial⟩ (fun ext => TL.on rfl rfl rfl (by first | rfl | simp) <| TL.callV hF (Word_fn (psum cells cells.length)) rfl rfl TL.fin) ?_
    refine DH.pure (i := 14) [(95, _, some 11), (97, _, some 13), (91, _, some 7)] rfl rfl rfl rfl ⟨⟨rfl, rfl, rfl⟩, ⟨rfl, rfl, rfl⟩, ⟨rfl, rfl, rfl⟩, trivial⟩ (fun _ ext => TL.on rfl rfl rfl (by first | rfl | simp) <| TL.bin hF rfl rfl rfl rfl TL.fin) ?_
    refine DH.pure (i := 15) [(91, _, some 7), (98, _, some 14)] rfl rfl rfl rfl ⟨⟨rfl, rfl, rfl⟩, ⟨rfl, rfl, rfl⟩, trivial⟩ (fun _ ext => TL.pickT hF rfl (by first | rfl | simp) rfl rfl TL.fin) ?_
    refine DH.pure (i := 16) [(99, _, some 15)] rfl rfl rfl rfl ⟨⟨rfl, rfl, rfl⟩, trivial⟩ (fun _ ext => TL.move hF rfl rfl TL.fin) ?_
    refine DH.pure (i := 17) [(14, _, none), (100, _, some 16)] rfl rfl rfl rfl ⟨⟨rfl, by kernel_rfl⟩, ⟨rfl, rfl, rfl⟩, trivial⟩ (fun _ ext => TL.on rfl rfl rfl (decide_eq_true f1) <| TL.move hF rfl rfl TL.fin) ?_
    refine DH.pure (i := 18) [(101, _, some 17), (100, _, some 16)] rfl rfl rfl rfl ⟨⟨rfl, rfl, rfl⟩, ⟨rfl, rfl, rfl⟩, trivial⟩ (fun _ ext => TL.on rfl rfl rfl (decide_eq_true f1) <| TL.indexAddr hF rfl rfl (hla.ad (i := 1) (by simp)) (by decide) (by simp) rfl TL.fin) ?_
    refine DH.pure (i := 19) [(102, _, some 18), (100, _, some 16)] rfl rfl rfl rfl ⟨⟨rfl, rfl, rfl⟩, ⟨rfl, rfl, rfl⟩, trivial⟩ (fun _ ext => TL.on rfl rfl rfl (decide_eq_true f1) <| TL.fieldAddr hF rfl rfl TL.fin) ?_
    refine DH.read (i := 20) [(103, _, some 19), (100, _, some 16)] rfl rfl rfl rfl ⟨⟨rfl, rfl, rfl⟩, ⟨rfl, rfl, rfl⟩, trivial⟩ (fun ext => TL.on rfl rfl rfl (decide_eq_true f1) <| TL.load hF rfl ((hla.atA (i := 1) (by simp) 0 _ rfl).up (by simp)) rfl TL.fin) ?_
    refine DH.pure (i := 21) [(10, _, none), (100, _, some 16)] rfl rfl rfl rfl ⟨⟨rfl, by kernel_rfl⟩, ⟨rfl, rfl, rfl⟩, trivial⟩ (fun _ ext => TL.on rfl rfl rfl (decide_eq_true f1) <| TL.move hF rfl rfl TL.fin) ?_
    refine DH.pure (i := 22) [(104, _, some 20), (105, _, some 21), (100, _, some 16)] rfl rfl rfl rfl ⟨⟨rfl, rfl, rfl⟩, ⟨rfl, rfl, rfl⟩, ⟨rfl, rfl, rfl⟩, trivial⟩ (fun _ ext => TL.on rfl rfl rfl (decide_eq_true f1) <| TL.bin hF rfl rfl rfl rfl TL.fin) ?_
    refine DH.pure (i := 23) [(100, _, some 16), (106, _, some 22)] rfl rfl rfl rfl ⟨⟨rfl, rfl, rfl⟩, ⟨rfl, rfl, rfl⟩, trivial⟩ (fun _ ext => TL.pickT hF rfl (decide_eq_true f1) rfl rfl TL.fin) ?_
    refine DH.pure (i := 24) [(107, _, some 23)] rfl rfl rfl rfl ⟨⟨rfl, rfl, rfl⟩, trivial⟩ (fun _ ext => TL.move hF rfl rfl TL.fin) ?_
    refine DH.pure (i := 25) [(14, _, none), (108, _, some 24)] rfl rfl rfl rfl ⟨⟨rfl, by kernel_rfl⟩, ⟨rfl, rfl, rfl⟩, trivial⟩ (fun _ ext => TL.on rfl rfl rfl (decide_eq_true f2) <| TL.move hF rfl rfl TL.fin) ?_
    refine DH.pure (i := 26) [(109, _, some 25), (108, _, some 24)] rfl rfl rfl rfl ⟨⟨rfl, rfl, rfl⟩, ⟨rfl, rfl, rfl⟩, trivial⟩ (fun _ ext => TL.on rfl rfl rfl (decide_eq_true f2) <| TL.indexAddr hF rfl rfl (hla.ad (i := 1) (by simp)) (by decide) (by simp) rfl TL.fin) ?_
    refine DH.pure (i := 27) [(110, _, some 26), (108, _, some 24)] rfl rfl rfl rfl ⟨⟨rfl, rfl, rfl⟩, ⟨rfl, rfl, rfl⟩, trivial⟩ (fun _ ext => TL.on rfl rfl rfl (decide_eq_true f2) <| TL.fieldAddr hF rfl rfl TL.fin) ?_
    refine DH.read (i := 28) [(111, _, some 27), (108, _, some 24)] rfl rfl rfl rfl ⟨⟨rfl, rfl, rfl⟩, ⟨rfl, rfl, rfl⟩, trivial⟩ (fun ext => TL.on rfl rfl rfl (decide_eq_true f2) <| TL.load hF rfl ((hla.atA (i := 1) (by simp) 1 _ rfl).up (by simp)) rfl TL.fin) ?_
    refine DH.pure (i := 29) [(11, _, none), (108, _, some 24)] rfl rfl rfl rfl ⟨⟨rfl, by kernel_rfl⟩, ⟨rfl, rfl, rfl⟩, trivial⟩ (fun _ ext => TL.on rfl rfl rfl (decide_eq_true f2) <| TL.move hF rfl rfl TL.fin) ?_
    refine DH.read (i := 30) [(112, _, some 28), (113, _, some 29), (108, _, some 24)] rfl rfl rfl rfl ⟨⟨rfl, rfl, rfl⟩, ⟨rfl, rfl, rfl⟩, ⟨rfl, rfl, rfl⟩, trivial⟩ (fun ext => TL.on rfl rfl rfl (decide_eq_true f2) <| TL.callV hF (keysL_fn (Row.ro hm2.r1) hwk.ro f6) rfl rfl TL.fin) ?_
    refine DH.pure (i := 31) [(108, _, some 24), (114, _, some 30)] rfl rfl rfl rfl ⟨⟨rfl, rfl, rfl⟩, ⟨rfl, rfl, rfl⟩, trivial⟩ (fun _ ext => TL.pickT hF rfl (decide_eq_true f2) rfl rfl TL.fin) ?_
    refine DH.pure (i := 32) [(115, _, some 31)] rfl rfl rfl rfl ⟨⟨rfl, rfl, rfl⟩, trivial⟩ (fun _ ext => TL.move hF rfl rfl TL.fin) ?_
    refine DH.pure (i := 33) [(14, _, none), (116, _, some 32)] rfl rfl rfl rfl ⟨⟨rfl, by kernel_rfl⟩, ⟨rfl, rfl, rfl⟩, trivial⟩ (fun _ ext => TL.on rfl rfl rfl (decide_eq_true f3) <| TL.move hF rfl rfl TL.fin) ?_
    refine DH.pure (i := 34) [(117, _, some 33), (116, _, some 32)] rfl rfl rfl rfl ⟨⟨rfl, rfl, rfl⟩, ⟨rfl, rfl, rfl⟩, trivial⟩ (fun _ ext => TL.on rfl rfl rfl (decide_eq_true f3) <| TL.indexAddr hF rfl rfl (hla.ad (i := 1) (by simp)) (by decide) (by simp) rfl TL.fin) ?_
    refine DH.pure (i := 35) [(118, _, some 34), (116, _, some 32)] rfl rfl rfl rfl ⟨⟨rfl, rfl, rfl⟩, ⟨rfl, rfl, rfl⟩, trivial⟩ (fun _ ext => TL.on rfl rfl rfl (decide_eq_true f3) <| TL.fieldAddr hF rfl rfl TL.fin) ?_
    refine DH.read (i := 36) [(119, _, some 35), (116, _, some 32)] rfl rfl rfl rfl ⟨⟨rfl, rfl, rfl⟩, ⟨rfl, rfl, rfl⟩, trivial⟩ (fun ext => TL.on rfl rfl rfl (decide_eq_true f3) <| TL.load hF rfl ((hla.atA (i := 1) (by simp) 3 _ rfl).up (by simp)) rfl TL.fin) ?_
    refine DH.pure (i := 37) [(120, _, some 36), (116, _, some 32)] rfl rfl rfl rfl ⟨⟨rfl, rfl, rfl⟩, ⟨rfl, rfl, rfl⟩, trivial⟩ (fun _ ext => TL.on rfl rfl rfl (decide_eq_true f3) <| TL.len hF rfl rfl TL.fin) ?_
    refine DH.pure (i := 38) [(8, _, none), (116, _, some 32)] rfl rfl rfl rfl ⟨⟨rfl, by kernel_rfl⟩, ⟨rfl, rfl, rfl⟩, trivial⟩ (fun _ ext => TL.on rfl rfl rfl (decide_eq_true f3) <| TL.move hF rfl rfl TL.fin) ?_
    refine DH.pure (i := 39) [(122, _, some 38), (116, _, some 32)] rfl rfl rfl rfl ⟨⟨rfl, rfl, rfl⟩, ⟨rfl, rfl, rfl⟩, trivial⟩ (fun _ ext => TL.on rfl rfl rfl (decide_eq_true f3) <| TL.add hF rfl rfl (by omega) (by omega) rfl TL.fin) ?_
    refine DH.pure (i := 40) [(11, _, none), (116, _, some 32)] rfl rfl rfl rfl ⟨⟨rfl, by kernel_rfl⟩, ⟨rfl, rfl, rfl⟩, trivial⟩ (fun _ ext => TL.on rfl rfl rfl (decide_eq_true f3) <| TL.move hF rfl rfl TL.fin) ?_
    refine DH.pure (i := 41) [(124, _, some 40), (116, _, some 32)] rfl rfl rfl rfl ⟨⟨rfl, rfl, rfl⟩, ⟨rfl, rfl, rfl⟩, trivial⟩ (fun _ ext => TL.on rfl rfl rfl (decide_eq_true f3) <| TL.len hF rfl rfl TL.fin) ?_
    refine DH.pure (i := 42) [(123, _, some 39), (125, _, some 41), (116, _, some 32)] rfl rfl rfl rfl ⟨⟨rfl, rfl, rfl⟩, ⟨rfl, rfl, rfl⟩, ⟨rfl, rfl, rfl⟩, trivial⟩ (fun _ ext => TL.on rfl rfl rfl (decide_eq_true f3) <| TL.sub hF rfl rfl (by dsimp only; omega) (by dsimp only; omega) rfl TL.fin) ?_
    refine DH.pure (i := 43) [(121, _, some 37), (126, _, some 42), (116, _, some 32)] rfl rfl rfl rfl ⟨⟨rfl, rfl, rfl⟩, ⟨rfl, rfl, rfl⟩, ⟨rfl, rfl, rfl⟩, trivial⟩ (fun _ ext => TL.on rfl rfl rfl (decide_eq_true f3) <| TL.bin hF rfl rfl rfl rfl TL.fin) ?_
    refine DH.pure (i := 44) [(116, _, some 32), (127, _, some 43)] rfl rfl rfl rfl ⟨⟨rfl, rfl, rfl⟩, ⟨rfl, rfl, rfl⟩, trivial⟩ (fun _ ext => TL.pickT hF rfl (decide_eq_true f3) rfl rfl TL.fin) ?_
    refine DH.pure (i := 45) [(128, _, some 44)] rfl rfl rfl rfl ⟨⟨rfl, rfl, rfl⟩, trivial⟩ (fun _ ext => TL.move hF rfl rfl TL.fin) ?_
    refine DH.pure (i := 46) [(14, _, none), (129, _, some 45)] rfl rfl rfl rfl ⟨⟨rfl, by kernel_rfl⟩, ⟨rfl, rfl, rfl⟩, trivial⟩ (fun _ ext => TL.on rfl rfl rfl (decide_eq_true f4) <| TL.move hF rfl rfl TL.fin) ?_
    refine DH.pure (i := 47) [(130, _, some 46), (129, _, some 45)] rfl rfl rfl rfl ⟨⟨rfl, rfl, rfl⟩, ⟨rfl, rfl, rfl⟩, trivial⟩ (fun _ ext => TL.on rfl rfl rfl (decide_eq_true f4) <| TL.indexAddr hF rfl rfl (hla.ad (i := 0) (by simp)) (by decide) (by simp) rfl TL.fin) ?_
    refine DH.pure (i := 48) [(131, _, some 47), (129, _, some 45)] rfl rfl rfl rfl ⟨⟨rfl, rfl, rfl⟩, ⟨rfl, rfl, rfl⟩, trivial⟩ (fun _ ext => TL.on rfl rfl rfl (decide_eq_true f4) <| TL.fieldAddr hF rfl rfl TL.fin) ?_
    refine DH.read (i := 49) [(132, _, some 48), (129, _, some 45)] rfl rfl rfl rfl ⟨⟨rfl, rfl, rfl⟩, ⟨rfl, rfl, rfl⟩, trivial⟩ (fun ext => TL.on rfl rfl rfl (decide_eq_true f4) <| TL.load hF rfl ((hla.atA (i := 0) (by simp) 3 _ rfl).up (by simp)) rfl TL.fin) ?_
    refine DH.pure (i := 50) [(133, _, some 49), (129, _, some 45)] rfl rfl rfl rfl ⟨⟨rfl, rfl, rfl⟩, ⟨rfl, rfl, rfl⟩, trivial⟩ (fun _ ext => TL.on rfl rfl rfl (decide_eq_true f4) <| TL.len hF rfl rfl TL.fin) ?_
    refine DH.pure (i := 51) [(8, _, none), (129, _, some 45)] rfl rfl rfl rfl ⟨⟨rfl, by kernel_rfl⟩, ⟨rfl, rfl, rfl⟩, trivial⟩ (fun _ ext => TL.on rfl rfl rfl (decide_eq_true f4) <| TL.move hF rfl rfl TL.fin) ?_
    refine DH.pure (i := 52) [(135, _, some 51), (129, _, some 45)] rfl rfl rfl rfl ⟨⟨rfl, rfl, rfl⟩, ⟨rfl, rfl, rfl⟩, trivial⟩ (fun _ ext => TL.on rfl rfl rfl (decide_eq_true f4) <| TL.add hF rfl rfl (by omega) (by omega) rfl TL.fin) ?_
    refine DH.done [(136, _), (135, _), (134, _), (133, _), (132, _), (131, _), (130, _), (129, _), (128, _), (127, _), (126, _), (125, _), (124, _), (123, _), (122, _), (121, _), (120, _), (119, _), (118, _), (117, _), (116, _), (115, _), (114, _), (113, _), (112, _), (111, _), (110, _), (109, _), (108, _), (107, _), (106, _), (105, _), (104, _), (103, _), (102, _), (101, _), (100, _), (99, _), (98, _), (97, _), (96, _), (95, _), (94, _), (93, _), (92, _), (91, _), (90, _), (89, _), (88, _), (87, _), (86, _), (85, _), (84, _)] [_, _, _, _, _, _] (by kernel_rfl) (by kernel_rfl) (by kernel_rfl) (by kernel_rfl) rfl rfl ?_
    refine TL.on rfl rfl rfl (decide_eq_true f4) ?_
    refine TL.bin hF rfl rfl rfl rfl ?_
    refine TL.pickT hF rfl (decide_eq_true f4) rfl rfl ?_
    refine TL.move hF rfl rfl ?_
    refine TL.on rfl rfl rfl (decide_eq_true f5) ?_
    refine TL.call hF (traced_law hT) rfl rfl ?_
    rintro _ _ rfl
    refine TL.pickT hF rfl (decide_eq_true f5) rfl rfl ?_
    refine TL.assign hF rfl rfl ?_
    refine TL.nil ?_
    refine TQ.then_n ?_
    refine T.ret ?_
    exact TQ.retsF [6] _ hb rfl rfl rfl (fun _ => rfl)
end Go.Proofs.YtdiacobmhkmljaaDoor
namespace Go.Proofs.YtdiacobmhkmljaaDoor
open Go.Sl Go.ChangeShapes Go.WideShapes Go.ChangeAt Go.RowKit
set_option maxRecDepth 100000 in
theorem traceSums_lifted (os : Os) (started : os.Started) (H : Type) (enc : TypeId × Value → H) :
    ReturnsInHanded {} Tryd.checked os 7 .any (fun w args => (Rows.traceSumsSpec.pre enc Tryd.prog Tryd.f7 [] false w args ∧ laidMetH Tryd.prog laidL w) ∧ sizedMet enc Tryd.prog Tryd.f7 (OpenSpec.ofChange Rows.traceSumsSpec) false w args)
      (Rows.traceSumsSpec.post enc Tryd.prog Tryd.f7 false true false false) := by
  refine returnsInHanded_of_change_and (C := Tryd.checked) (X := fun w _ => laidMetH Tryd.prog laidL w) (fun _ _ _ hh h => h.of_heap hh) Tryd.own started (by kernel_rfl) Tryd.func7
    (ChangeSpec.witness_shaped (enc := enc) (C := Tryd.checked) (os := os) (X := fun w _ => laidMetH Tryd.prog laidL w) false (World.doorLaid Tryd.prog 2000 os) #[.slice none 0 0, .int .i64 0, .int .i64 0] 8 rfl (World.shaped_of_RefB (by kernel_rfl) (by kernel_rfl)) (by kernel_rfl) (by kernel_rfl) (by kernel_rfl) (door_met os _)) ?_
  intro W base args ds gs before hval0 hW _ hwt hL _
  have hval' : ∀ (j : Nat) t v, Tryd.f7.params[j]? = some t → args[j]? = some v → Value.okWide Tryd.prog W .any base t v := hval0
  have hW' := hW
  obtain ⟨p, q, hA0, hV, rfl, hfz, hnd⟩ := hW
  have hA : DataW.TrodAll enc Tryd.prog W 0 (fun _ => true) true [22, 3, 3] args.toList ds p := hA0
  obtain ⟨v0, v1, v2, d0, d1, d2, p0, p1, p2, rfl, rfl, rfl, h0, h1, h2⟩ := trodAll_three hA
  obtain ⟨_, _, _, rfl⟩ := okWide_slice u22 (hval' 0 22 v0 rfl rfl)
  obtain ⟨_, h0⟩ := h0
  obtain ⟨a0, xs0, c0, e0, hx0, hl0, hb0⟩ := ints_arg h0
  obtain ⟨z1, rfl, _, _, wz1⟩ := open_int u3 (hval' 1 3 v1 rfl rfl) h1
  have iz1 : I64 z1 := wf_i64 wz1
  obtain ⟨z2, rfl, _, _, wz2⟩ := open_int u3 (hval' 2 3 v2 rfl rfl) h2
  have iz2 : I64 z2 := wf_i64 wz2
  rw [e0] at hW' ⊢
  refine (calls_true (TraceSums_fn (tabs_of_laid hL) hx0 hl0 hb0 iz1 iz2)).mono fun e W' ⟨he, hw⟩ => ⟨_, he, ?_⟩
  exact law_post (f := Tryd.f7) Tryd.laidOut rfl 4 rfl u4 hW' rfl (by decide +kernel) hw
theorem traceSums_said : Rows.TraceSumsSaid :=
  OpenClaim.holds_of_wide 7 Tryd.f7 rfl rfl rfl rfl rfl rfl rfl ⟨rfl, rfl, rfl, rfl, rfl⟩ rfl rfl rfl rfl rfl (by kernel_rfl) Tryd.func7 (by kernel_rfl)
    (of_decide_eq_true (by kernel_rfl)) (by unfold Func.isWrapper; first | (rw [if_pos (by decide +kernel)]; kernel_rfl) | (rw [if_neg (by decide +kernel)]; exact ⟨rfl, rfl⟩))
    (fun os started H enc _ => traceSums_lifted os started H enc)
theorem traceSums_holds : Rows.TraceSumsCardSaid :=
  Claim7.holds_tied_plain_at .later [] [.funcs, .data] true (true, "9424b675a5bf1259037b7c80c1e1d1308b039b71f1eedf5d2444196735f82e90") false
    traceSums_said (fun _ h => by cases h) (by kernel_rfl) (fun _ h => by cases h) traceSums_row_tie rfl ⟨rfl, rfl⟩ (by kernel_rfl) rfl
    (fun f fn hf hfn => by
      obtain rfl : f = 7 := Option.some.inj ((show Tryd.prog.funcNamed "deltaworks/deltaworkslaw24.TraceSums" = some 7 by kernel_rfl).symm.trans hf) |>.symm
      obtain rfl : fn = Tryd.f7 := (Option.some.inj (Tryd.func7.symm.trans hfn)).symm
      exact ⟨by kernel_rfl, fun j t ht => by
        have ht2 : (#[22, 3, 3] : Array TypeId)[j]? = some t := ht
        have hm : t ∈ ([22, 3, 3] : List TypeId) := by simpa using Array.mem_of_getElem? ht2
        have hall : (([22, 3, 3] : List TypeId).all fun u => !Tryd.prog.wantsStandIn u) = true := by kernel_rfl
        exact (show Tryd.prog.wantsStandIn t = false by simpa using List.all_eq_true.1 hall t hm)⟩)
    (by kernel_rfl)
#print axioms traceSums_holds
end Go.Proofs.YtdiacobmhkmljaaDoor
