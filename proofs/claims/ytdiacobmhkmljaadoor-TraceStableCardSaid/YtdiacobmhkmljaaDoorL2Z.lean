/- The theorem of stability, for every input. No condition. -/
import Derived.Test.YtdiacobmhkmljaaDoorTf
import Derived.Test.YtdiacobmhkmljaaDoorCards
import Derived.Test.YtdiacobmhkmljaaDoorTie
/- Play with rounds that lie in memory; cells put back; numbers in order. -/
namespace Go.Proofs.YtdiacobmhkmljaaDoor
open Go.Sl
variable {S : Nat → Prop} {w0 : World} {η : Heap}
theorem _root_.Go.Sl.Rt.frz {P : Program} {g : FuncId} {args : Array Value} {R : Value → Heap → Prop} (ηr : Heap) (h : ∀ S' w1, Frz S S' w0 w1 ηr → (∀ η' a v, At S' w1 η' a v → At S w0 (ηr ++ η') a v) → Rt P g args S' w1 η (fun v η' => R v (ηr ++ η'))) : Rt P g args S w0 (ηr ++ η) R := fun w hh => by
 obtain ⟨S', hz, hh', hb⟩ := frz_mk2 hh
 exact (h S' w hz hb w hh').mono fun e w' ⟨v, η', h1, h2, h3⟩ => ⟨v, ηr ++ η', h1, hz.back _ _ h2, h3⟩
theorem Play_fr {fa ca ra : Option Addr} {fl : List TE} {fc cc rc : Nat} {cells : List Int} {top : Key} {ps : List EH} (ηr : Heap) (hT : Tabs S w0) (hf : Fs S w0 [] fa fl) (hfl : fl.length < 9223372036854775808) (hc : Row S w0 [] ca (ints cells)) (hcl : cells.length < 9223372036854775808) (hr : GL kC S w0 ηr ra ps) (hrl0 : ps.length < 9223372036854775808) (hrl1 : ∀ p ∈ ps, p.2.1.length < 9223372036854775808) :
  Rt Tryd.prog 11 [.slice fa fl.length fc, .slice ca cells.length cc, kV top, .slice ra ps.length rc].toArray S w0 (ηr ++ η) (fun v η' => ∃ a cap l segs, v = .tuple #[.slice a l.length cap, .int .i64 (playS (fl.map TE.ex) cells top (erounds ps)).2] ∧ l.map (·.r) = (playS (fl.map TE.ex) cells top (erounds ps)).1 ∧ RL S w0 segs a l ∧ l.length ≤ cap ∧ η' = segs ++ η) :=
 Rt.frz ηr fun S' w1 hz hb => (Play_fn (hT.old hz) (hf.old hz) hfl (hc.old hz) hcl (hr.frz hz) hrl0 hrl1).mono fun v η' ⟨a, cap, l, segs, h1, h2, h3, h4, h5⟩ =>
  ⟨a, cap, l, ηr ++ segs, h1, h2, h3.map fun _ _ hr => hr.thaw hb, h4, by rw [h5, List.append_assoc]⟩
/-- What puts cells back. -/
def backL (cells : List Int) : List (Int × Int) := cells.zipIdx.map fun x => ((x.2 : Int), x.1)
theorem backL_len (cells : List Int) : (backL cells).length = cells.length := by simp [backL]
theorem backL_get (cells : List Int) {i : Nat} (h : i < cells.length) : (backL cells)[i]'(by rw [backL_len]; exact h) = ((i : Int), cells[i]) := by simp [backL]
theorem back_go {cells : List Int} : ∀ (i : Nat) (c : List Int), i ≤ cells.length → c.length = cells.length → ∀ j, (editS c ((backL cells).take i))[j]? = if j < i then cells[j]? else c[j]?
 | 0, c, _, _, j => by simp [editS]
 | i + 1, c, hi, hc, j => by
  have hil : i < (backL cells).length := by rw [backL_len]; omega
  rw [List.take_succ_eq_append_getElem hil, editS_snoc, backL_get cells (by omega)]
  simp only [Int.toNat_natCast]
  rw [List.getElem?_set, back_go i c (by omega) hc j]
  by_cases h1 : i = j
  ·subst h1
   rw [if_pos rfl, if_pos (by rw [editS_len]; omega), if_pos (by omega), List.getElem?_eq_getElem (by omega)]
  ·rw [if_neg h1]
   by_cases h2 : j < i
   ·rw [if_pos h2, if_pos (by omega)]
   ·rw [if_neg h2, if_neg (by omega)]
theorem back_ok {cells c : List Int} (h : c.length = cells.length) : editS c (backL cells) = cells := by
 have h1 := back_go cells.length c (Nat.le_refl _) h
 rw [List.take_of_length_le (by rw [backL_len]; omega)] at h1
 apply List.ext_getElem?
 intro j
 rw [h1 j]
 by_cases h2 : j < cells.length
 ·rw [if_pos h2]
 ·rw [if_neg h2, List.getElem?_eq_none (by omega), List.getElem?_eq_none (by omega)]
theorem run_made {F : List Ex} {cells : List Int} {top : Key} (h : askedS F cells top = 0) : runE F cells top = (traceS F cells top, 0) := by unfold runE; rw [if_pos h]
theorem tra_of {F : List Ex} {cells : List Int} {top : Key} (h : askedS F cells top = 0) : Tra F cells top (traceS F cells top) ∧ (callsS F cells top).2 = V F cells top ∧ (traceS F cells top).length ≤ 1608 := by
 obtain ⟨hs, k1, k2, k3, k4⟩ := scn_of h
 obtain ⟨hg, h2, h3⟩ := calls_ok (cells := cells) hs.right k1 k2 k3 (by omega)
 refine ⟨h3, h2, ?_⟩
 have := good_len hs hg
 unfold traceS; rw [sort_len hg.nd]; exact this
theorem play_made {F : List Ex} {cells : List Int} {top : Key} {ps : List EH} (h : askedS F cells top = 0) (h6 : ps.length ≤ 6) (hr : ∀ p ∈ ps, p.2.1.length ≤ 30 ∧ ∀ x ∈ p.2.1, okEdit cells.length x = true) : playS F cells top (erounds ps) = (roundsS F top (erounds ps) cells (traceS F cells top), 0) := by
 unfold playS
 rw [if_pos h, long_no (by omega) (fun p hp => (hr p hp).1), edits_yes (fun p hp => (hr p hp).2)]; rfl
set_option maxHeartbeats 2000000 in
theorem Ordered_true {a : Option Addr} {xs : List Int} {c m : Nat} (hx : Row S w0 [] a (ints xs)) (hl : xs.length < 9223372036854775808) (hm : m < 9223372036854775808) (hu : xs.Pairwise (· < ·)) (hb : ∀ x ∈ xs, 0 ≤ x ∧ x < m) :
  Rt Tryd.prog 19 [.slice a xs.length c, .int .i64 (m : Int)].toArray S w0 η (fun v η' => v = .bool true ∧ η' = η) := by
 have hF := open_wide
 refine Rt.of (fn := Tryd.f19) Tryd.func19 rfl rfl ?_
 refine T.seq ?_
 refine T.region ?_
 refine TL.assign hF rfl rfl ?_
 refine TL.nil ?_
 refine TQ.then_n ?_
 refine T.seq ?_
 refine T.seq ?_
 refine T.region ?_
 refine TL.assign hF rfl rfl ?_
 refine TL.nil ?_
 refine TQ.then_n ?_
 refine T.block ?_
 refine T.loop (ι := Nat) (fun i => i ≤ xs.length) (fun i => [(0, .slice a xs.length c), (1, .int .i64 (m : Int)), (4, .bool false), (5, .int .i64 (i : Int))]) (fun _ => η) (fun i => xs.length - i) 0 (Nat.zero_le _) ⟨rfl, rfl, rfl, rfl, trivial⟩ rfl ?_
 rintro i hi
 refine T.seq ?_
 refine T.seq ?_
 refine T.region ?_
 refine TL.move hF rfl rfl ?_
 refine TL.move hF rfl rfl ?_
 refine TL.len hF rfl rfl ?_
 refine TL.bin hF rfl rfl rfl rfl ?_
 refine TL.nil ?_
 refine TQ.then_n ?_
 first | refine T.cond_d rfl (fun ht9 => ?_) (fun ht9 => ?_) | refine T.cond _ rfl (fun ht9 => ?_) (fun ht9 => ?_)
 ·refine T.skip ?_
  refine TQ.then_n ?_
  refine T.seq ?_
  refine T.block ?_
  refine T.seq ?_
  rcases Nat.eq_zero_or_pos i with hi0 | hi0
  ·have hil : i < xs.length := by have h : (i : Int) < (xs.length : Int) := ht9; omega
   have hbi := hb _ (List.getElem_mem hil)
   refine T.draw ?_
   refine DR.stepV [_] rfl [(0, _, none)] rfl rfl ⟨⟨rfl, by kernel_rfl⟩, trivial⟩ (fun ext => TL.move hF rfl rfl TL.fin) ?_
   refine DR.stepV [_, _] rfl [(5, _, none)] rfl rfl ⟨⟨rfl, by kernel_rfl⟩, trivial⟩ (fun ext => TL.move hF rfl rfl TL.fin) ?_
   refine DR.stepV [_, _, _] rfl [(12, _, some 0), (13, _, some 1)] rfl rfl ⟨⟨rfl, rfl, rfl⟩, ⟨rfl, rfl, rfl⟩, trivial⟩ (fun ext => TL.indexAddr hF rfl rfl (hx.adi (i := i) (by simpa using hil)) (by omega) (by omega) rfl TL.fin) ?_
   refine DR.stepV [_, _, _, _] rfl [(14, _, some 2)] rfl rfl ⟨⟨rfl, rfl, rfl⟩, trivial⟩ (fun ext => TL.load hF rfl (hx.ro.int (i := i) hil) rfl TL.fin) ?_
   refine DR.stepV [_, _, _, _, _] rfl [(1, _, none)] rfl rfl ⟨⟨rfl, by kernel_rfl⟩, trivial⟩ (fun ext => TL.move hF rfl rfl TL.fin) ?_
   refine DR.stepV [_, _, _, _, _, _] rfl [(16, _, some 4)] rfl rfl ⟨⟨rfl, rfl, rfl⟩, trivial⟩ (fun ext => TL.sub hF rfl rfl (by omega) (by omega) rfl TL.fin) ?_
   refine DR.stepV [_, _, _, _, _, _, _] rfl [(15, _, some 3), (17, _, some 5)] rfl rfl ⟨⟨rfl, rfl, rfl⟩, ⟨rfl, rfl, rfl⟩, trivial⟩ (fun ext => TL.callV hF (Lies_fn xs[i] 0 ((m : Int) - 1)) rfl rfl TL.fin) ?_
   refine DR.stepV [_, _, _, _, _, _, _, _] rfl [(18, _, some 6)] rfl rfl ⟨⟨rfl, rfl, rfl⟩, trivial⟩ (fun ext => TL.not hF rfl rfl TL.fin) ?_
   refine DR.stepV [_, _, _, _, _, _, _, _, _] rfl [(19, _, some 7)] rfl rfl ⟨⟨rfl, rfl, rfl⟩, trivial⟩ (fun ext => TL.move hF rfl rfl TL.fin) ?_
   refine DR.stepV [_, _, _, _, _, _, _, _, _, _] rfl [(5, _, none), (20, _, some 8)] rfl rfl ⟨⟨rfl, by kernel_rfl⟩, ⟨rfl, rfl, rfl⟩, trivial⟩ (fun ext => TL.on rfl rfl rfl (by simp; omega) <| TL.move hF rfl rfl TL.fin) ?_
   refine DR.stepV [_, _, _, _, _, _, _, _, _, _, _] rfl [(21, _, some 9), (20, _, some 8)] rfl rfl ⟨⟨rfl, rfl, rfl⟩, ⟨rfl, rfl, rfl⟩, trivial⟩ (fun ext => TL.on rfl rfl rfl (by simp; omega) <| TL.bin hF rfl rfl rfl rfl TL.fin) ?_
   refine DR.stepV [_, _, _, _, _, _, _, _, _, _, _, _] rfl [(22, _, some 10), (20, _, some 8)] rfl rfl ⟨⟨rfl, rfl, rfl⟩, ⟨rfl, rfl, rfl⟩, trivial⟩ (fun ext => TL.on rfl rfl rfl (by simp; omega) <| TL.move hF rfl rfl TL.fin) ?_
   refine DR.stepV [_, _, _, _, _, _, _, _, _, _, _, _, _] rfl [(0, _, none), (23, _, some 11)] rfl rfl ⟨⟨rfl, by kernel_rfl⟩, ⟨rfl, rfl, rfl⟩, trivial⟩ (fun ext => TL.off hF rfl rfl rfl (decide_eq_false (by omega)) rfl TL.fin) ?_
   refine DR.stepV [_, _, _, _, _, _, _, _, _, _, _, _, _, _] rfl [(5, _, none), (23, _, some 11)] rfl rfl ⟨⟨rfl, by kernel_rfl⟩, ⟨rfl, rfl, rfl⟩, trivial⟩ (fun ext => TL.off hF rfl rfl rfl (decide_eq_false (by omega)) rfl TL.fin) ?_
   refine DR.stepV [_, _, _, _, _, _, _, _, _, _, _, _, _, _, _] rfl [(24, _, some 12), (25, _, some 13), (23, _, some 11)] rfl rfl ⟨⟨rfl, rfl, rfl⟩, ⟨rfl, rfl, rfl⟩, ⟨rfl, rfl, rfl⟩, trivial⟩ (fun ext => TL.off hF rfl rfl rfl (decide_eq_false (by omega)) rfl TL.fin) ?_
   refine DR.stepV [_, _, _, _, _, _, _, _, _, _, _, _, _, _, _, _] rfl [(26, _, some 14), (23, _, some 11)] rfl rfl ⟨⟨rfl, rfl, rfl⟩, ⟨rfl, rfl, rfl⟩, trivial⟩ (fun ext => TL.off hF rfl rfl rfl (decide_eq_false (by omega)) rfl TL.fin) ?_
   refine DR.stepV [_, _, _, _, _, _, _, _, _, _, _, _, _, _, _, _, _] rfl [(0, _, none), (23, _, some 11)] rfl rfl ⟨⟨rfl, by kernel_rfl⟩, ⟨rfl, rfl, rfl⟩, trivial⟩ (fun ext => TL.off hF rfl rfl rfl (decide_eq_false (by omega)) rfl TL.fin) ?_
   refine DR.stepV [_, _, _, _, _, _, _, _, _, _, _, _, _, _, _, _, _, _] rfl [(5, _, none), (23, _, some 11)] rfl rfl ⟨⟨rfl, by kernel_rfl⟩, ⟨rfl, rfl, rfl⟩, trivial⟩ (fun ext => TL.off hF rfl rfl rfl (decide_eq_false (by omega)) rfl TL.fin) ?_
   refine DR.stepV [_, _, _, _, _, _, _, _, _, _, _, _, _, _, _, _, _, _, _] rfl [(29, _, some 17), (23, _, some 11)] rfl rfl ⟨⟨rfl, rfl, rfl⟩, ⟨rfl, rfl, rfl⟩, trivial⟩ (fun ext => TL.off hF rfl rfl rfl (decide_eq_false (by omega)) rfl TL.fin) ?_
   refine DR.stepV [_, _, _, _, _, _, _, _, _, _, _, _, _, _, _, _, _, _, _, _] rfl [(28, _, some 16), (30, _, some 18), (23, _, some 11)] rfl rfl ⟨⟨rfl, rfl, rfl⟩, ⟨rfl, rfl, rfl⟩, ⟨rfl, rfl, rfl⟩, trivial⟩ (fun ext => TL.off hF rfl rfl rfl (decide_eq_false (by omega)) rfl TL.fin) ?_
   refine DR.stepV [_, _, _, _, _, _, _, _, _, _, _, _, _, _, _, _, _, _, _, _, _] rfl [(31, _, some 19), (23, _, some 11)] rfl rfl ⟨⟨rfl, rfl, rfl⟩, ⟨rfl, rfl, rfl⟩, trivial⟩ (fun ext => TL.off hF rfl rfl rfl (decide_eq_false (by omega)) rfl TL.fin) ?_
   refine DR.done [(32, _), (31, _), (30, _), (29, _), (28, _), (27, _), (26, _), (25, _), (24, _), (23, _), (22, _), (21, _), (20, _), (19, _), (18, _), (17, _), (16, _), (15, _), (14, _), (13, _), (12, _)] [_, _, _] mixed (by kernel_rfl) (by kernel_rfl) (by kernel_rfl) rfl rfl ?_
   refine TL.off hF rfl rfl rfl (decide_eq_false (by omega)) rfl ?_
   refine TL.on rfl rfl rfl (by simp; omega) ?_
   refine TL.pickF hF rfl (decide_eq_false (by omega)) rfl rfl ?_
   refine TL.pickF hF rfl (by simp; omega) rfl rfl ?_
   refine TL.nil ?_
   refine TQ.then_n ?_
   refine T.cond_f rfl rfl ?_
   refine T.skip ?_
   refine TQ.block_n ?_
   refine TQ.then_n ?_
   refine T.region ?_
   refine TL.move hF rfl rfl ?_
   refine TL.add hF rfl rfl (by omega) (by omega) rfl ?_
   refine TL.assign hF rfl rfl ?_
   refine TL.nil ?_
   refine TQ.round (i + 1) (by omega) (by omega) ⟨rfl, rfl, rfl, rfl, trivial⟩ rfl
  ·have hil : i < xs.length := by have h : (i : Int) < (xs.length : Int) := ht9; omega
   have hbi := hb _ (List.getElem_mem hil)
   refine T.draw ?_
   refine DR.stepV [_] rfl [(0, _, none)] rfl rfl ⟨⟨rfl, by kernel_rfl⟩, trivial⟩ (fun ext => TL.move hF rfl rfl TL.fin) ?_
   refine DR.stepV [_, _] rfl [(5, _, none)] rfl rfl ⟨⟨rfl, by kernel_rfl⟩, trivial⟩ (fun ext => TL.move hF rfl rfl TL.fin) ?_
   refine DR.stepV [_, _, _] rfl [(12, _, some 0), (13, _, some 1)] rfl rfl ⟨⟨rfl, rfl, rfl⟩, ⟨rfl, rfl, rfl⟩, trivial⟩ (fun ext => TL.indexAddr hF rfl rfl (hx.adi (i := i) (by simpa using hil)) (by omega) (by omega) rfl TL.fin) ?_
   refine DR.stepV [_, _, _, _] rfl [(14, _, some 2)] rfl rfl ⟨⟨rfl, rfl, rfl⟩, trivial⟩ (fun ext => TL.load hF rfl (hx.ro.int (i := i) hil) rfl TL.fin) ?_
   refine DR.stepV [_, _, _, _, _] rfl [(1, _, none)] rfl rfl ⟨⟨rfl, by kernel_rfl⟩, trivial⟩ (fun ext => TL.move hF rfl rfl TL.fin) ?_
   refine DR.stepV [_, _, _, _, _, _] rfl [(16, _, some 4)] rfl rfl ⟨⟨rfl, rfl, rfl⟩, trivial⟩ (fun ext => TL.sub hF rfl rfl (by omega) (by omega) rfl TL.fin) ?_
   refine DR.stepV [_, _, _, _, _, _, _] rfl [(15, _, some 3), (17, _, some 5)] rfl rfl ⟨⟨rfl, rfl, rfl⟩, ⟨rfl, rfl, rfl⟩, trivial⟩ (fun ext => TL.callV hF (Lies_fn xs[i] 0 ((m : Int) - 1)) rfl rfl TL.fin) ?_
   refine DR.stepV [_, _, _, _, _, _, _, _] rfl [(18, _, some 6)] rfl rfl ⟨⟨rfl, rfl, rfl⟩, trivial⟩ (fun ext => TL.not hF rfl rfl TL.fin) ?_
   refine DR.stepV [_, _, _, _, _, _, _, _, _] rfl [(19, _, some 7)] rfl rfl ⟨⟨rfl, rfl, rfl⟩, trivial⟩ (fun ext => TL.move hF rfl rfl TL.fin) ?_
   refine DR.stepV [_, _, _, _, _, _, _, _, _, _] rfl [(5, _, none), (20, _, some 8)] rfl rfl ⟨⟨rfl, by kernel_rfl⟩, ⟨rfl, rfl, rfl⟩, trivial⟩ (fun ext => TL.on rfl rfl rfl (by simp; omega) <| TL.move hF rfl rfl TL.fin) ?_
   refine DR.stepV [_, _, _, _, _, _, _, _, _, _, _] rfl [(21, _, some 9), (20, _, some 8)] rfl rfl ⟨⟨rfl, rfl, rfl⟩, ⟨rfl, rfl, rfl⟩, trivial⟩ (fun ext => TL.on rfl rfl rfl (by simp; omega) <| TL.bin hF rfl rfl rfl rfl TL.fin) ?_
   refine DR.stepV [_, _, _, _, _, _, _, _, _, _, _, _] rfl [(22, _, some 10), (20, _, some 8)] rfl rfl ⟨⟨rfl, rfl, rfl⟩, ⟨rfl, rfl, rfl⟩, trivial⟩ (fun ext => TL.on rfl rfl rfl (by simp; omega) <| TL.move hF rfl rfl TL.fin) ?_
   refine DR.stepV [_, _, _, _, _, _, _, _, _, _, _, _, _] rfl [(0, _, none), (23, _, some 11)] rfl rfl ⟨⟨rfl, by kernel_rfl⟩, ⟨rfl, rfl, rfl⟩, trivial⟩ (fun ext => TL.on rfl rfl rfl (decide_eq_true (by omega)) <| TL.move hF rfl rfl TL.fin) ?_
   refine DR.stepV [_, _, _, _, _, _, _, _, _, _, _, _, _, _] rfl [(5, _, none), (23, _, some 11)] rfl rfl ⟨⟨rfl, by kernel_rfl⟩, ⟨rfl, rfl, rfl⟩, trivial⟩ (fun ext => TL.on rfl rfl rfl (decide_eq_true (by omega)) <| TL.move hF rfl rfl TL.fin) ?_
   refine DR.stepV [_, _, _, _, _, _, _, _, _, _, _, _, _, _, _] rfl [(24, _, some 12), (25, _, some 13), (23, _, some 11)] rfl rfl ⟨⟨rfl, rfl, rfl⟩, ⟨rfl, rfl, rfl⟩, ⟨rfl, rfl, rfl⟩, trivial⟩ (fun ext => TL.on rfl rfl rfl (decide_eq_true (by omega)) <| TL.indexAddr hF rfl rfl (hx.adi (i := i) (by simpa using hil)) (by omega) (by omega) rfl TL.fin) ?_
   refine DR.stepV [_, _, _, _, _, _, _, _, _, _, _, _, _, _, _, _] rfl [(26, _, some 14), (23, _, some 11)] rfl rfl ⟨⟨rfl, rfl, rfl⟩, ⟨rfl, rfl, rfl⟩, trivial⟩ (fun ext => TL.on rfl rfl rfl (decide_eq_true (by omega)) <| TL.load hF rfl (hx.ro.int (i := i) hil) rfl TL.fin) ?_
   refine DR.stepV [_, _, _, _, _, _, _, _, _, _, _, _, _, _, _, _, _] rfl [(0, _, none), (23, _, some 11)] rfl rfl ⟨⟨rfl, by kernel_rfl⟩, ⟨rfl, rfl, rfl⟩, trivial⟩ (fun ext => TL.on rfl rfl rfl (decide_eq_true (by omega)) <| TL.move hF rfl rfl TL.fin) ?_
   refine DR.stepV [_, _, _, _, _, _, _, _, _, _, _, _, _, _, _, _, _, _] rfl [(5, _, none), (23, _, some 11)] rfl rfl ⟨⟨rfl, by kernel_rfl⟩, ⟨rfl, rfl, rfl⟩, trivial⟩ (fun ext => TL.on rfl rfl rfl (decide_eq_true (by omega)) <| TL.move hF rfl rfl TL.fin) ?_
   refine DR.stepV [_, _, _, _, _, _, _, _, _, _, _, _, _, _, _, _, _, _, _] rfl [(29, _, some 17), (23, _, some 11)] rfl rfl ⟨⟨rfl, rfl, rfl⟩, ⟨rfl, rfl, rfl⟩, trivial⟩ (fun ext => TL.on rfl rfl rfl (decide_eq_true (by omega)) <| TL.sub hF rfl rfl (by omega) (by omega) rfl TL.fin) ?_
   refine DR.stepV [_, _, _, _, _, _, _, _, _, _, _, _, _, _, _, _, _, _, _, _] rfl [(28, _, some 16), (30, _, some 18), (23, _, some 11)] rfl rfl ⟨⟨rfl, rfl, rfl⟩, ⟨rfl, rfl, rfl⟩, ⟨rfl, rfl, rfl⟩, trivial⟩ (fun ext => TL.on rfl rfl rfl (decide_eq_true (by omega)) <| TL.indexAddr hF rfl rfl (hx.adi (i := ((i : Int) - 1).toNat) (by simp; omega)) (by omega) (by omega) rfl TL.fin) ?_
   refine DR.stepV [_, _, _, _, _, _, _, _, _, _, _, _, _, _, _, _, _, _, _, _, _] rfl [(31, _, some 19), (23, _, some 11)] rfl rfl ⟨⟨rfl, rfl, rfl⟩, ⟨rfl, rfl, rfl⟩, trivial⟩ (fun ext => TL.on rfl rfl rfl (decide_eq_true (by omega)) <| TL.load hF rfl (hx.ro.int (i := ((i : Int) - 1).toNat) (by omega)) rfl TL.fin) ?_
   refine DR.done [(32, _), (31, _), (30, _), (29, _), (28, _), (27, _), (26, _), (25, _), (24, _), (23, _), (22, _), (21, _), (20, _), (19, _), (18, _), (17, _), (16, _), (15, _), (14, _), (13, _), (12, _)] [_, _, _] mixed (by kernel_rfl) (by kernel_rfl) (by kernel_rfl) rfl rfl ?_
   refine TL.on rfl rfl rfl (decide_eq_true (by omega)) ?_
   refine TL.bin hF rfl rfl rfl rfl ?_
   refine TL.on rfl rfl rfl (by simp; omega) ?_
   refine TL.pickT hF rfl (decide_eq_true (by omega)) rfl rfl ?_
   refine TL.pickF hF rfl (by simp; omega) rfl rfl ?_
   refine TL.nil ?_
   refine TQ.then_n ?_
   refine T.cond_f rfl (by first | rfl | exact decide_eq_false (by have h9 := List.pairwise_iff_getElem.1 hu (((i : Int) - 1).toNat) i (by omega) hil (by omega); omega)) ?_
   refine T.skip ?_
   refine TQ.block_n ?_
   refine TQ.then_n ?_
   refine T.region ?_
   refine TL.move hF rfl rfl ?_
   refine TL.add hF rfl rfl (by omega) (by omega) rfl ?_
   refine TL.assign hF rfl rfl ?_
   refine TL.nil ?_
   refine TQ.round (i + 1) (by omega) (by omega) ⟨rfl, rfl, rfl, rfl, trivial⟩ rfl
 ·refine T.exit ?_
  refine TQ.then_x ?_
  refine TQ.then_x ?_
  refine TQ.block_x ?_
  refine TQ.then_n ?_
  refine T.seq ?_
  refine T.region ?_
  refine TL.assign hF rfl rfl ?_
  refine TL.nil ?_
  refine TQ.then_n ?_
  refine T.ret ?_
  refine TQ.rets [4] _ rfl rfl rfl ?_
  exact ⟨rfl, rfl⟩
end Go.Proofs.YtdiacobmhkmljaaDoor
/- The theorem of stability, walked. -/
namespace Go.Proofs.YtdiacobmhkmljaaDoor
open Go.Sl
variable {S : Nat → Prop} {w0 : World} {η : Heap}
theorem at0_get {l : List Int} {i : Nat} (h : i < l.length) : at0 l i = l[i] := by
 unfold at0; rw [List.getD_eq_getElem?_getD, List.getElem?_eq_getElem h]; rfl
theorem needs_made {F : List Ex} {cells : List Int} {top : Key} (h : askedS F cells top = 0) : ∃ NE, needsS F cells top = (NE, 0) ∧ NE.Pairwise (· < ·) ∧ ∀ c, c ∈ NE ↔ ∃ x ∈ traceS F cells top, ∃ d ∈ x.deps, d.call = false ∧ d.cell = c := by
 have hg := ris_go (l := cellsOf (traceS F cells top)) (acc := []) List.Pairwise.nil
 refine ⟨_, by unfold needsS; rw [if_pos h], hg.1, fun c => ?_⟩
 rw [hg.2 c, ← mem_cellsOf]; simp
theorem dep_cell {F : List Ex} {cells : List Int} {top : Key} (hf : RightF F) (h0 : 0 < cells.length) {l : List Nd} (hl : Tra F cells top l) {x : Nd} (hx : x ∈ l) {d : Dp} (hd : d ∈ x.deps) (hc : d.call = false) : 0 ≤ d.cell ∧ d.cell < cells.length := by
 obtain ⟨a1, a2, a3, a4, a5, a6, a7⟩ := hl.ok x hx
 obtain ⟨_, w, q1, _⟩ := (asks (a := cells) hf a1 a2 d (a6 ▸ hd)).2 hc
 have h4 := Int.emod_nonneg w (show (cells.length : Int) ≠ 0 by omega)
 have h5 := Int.emod_lt_of_pos w (show (0 : Int) < cells.length by omega)
 unfold cellAt at q1
 omega
/-- Why it is run again. -/
def WhyC (a b : List Int) (again : List Key) (d : Dp) : Prop := (d.call = false ∧ at0 b d.cell.toNat ≠ at0 a d.cell.toNat) ∨ (d.call = true ∧ d.key ∈ again)
structure KS where
 k : Nat
 why : Bool
set_option maxHeartbeats 8000000 in
theorem TraceStable_fn {a b : Option Addr} {by' l : List Int} {c d : Nat} (hT : Tabs S w0) (hby : Row S w0 [] a (ints by')) (hbyl : by'.length < 9223372036854775808) (hbyb : ∀ x ∈ by', I64 x) (hl : Row S w0 [] b (ints l)) (hll : l.length < 9223372036854775808) (hlb : ∀ x ∈ l, I64 x) :
  Rt Tryd.prog 4 [.slice a by'.length c, .slice b l.length d].toArray S w0 η (fun v _ => v = .bool true) := by
 have hF := open_wide
 refine Rt.of (fn := Tryd.f4) Tryd.func4 rfl rfl ?_
 refine T.seq ?_
 refine T.region ?_
 refine TL.assign hF rfl rfl ?_
 refine TL.nil ?_
 refine TQ.then_n ?_
 refine T.seq ?_
 refine T.region ?_
 refine TL.move hF rfl rfl ?_
 have hb := Back.refl S w0
 refine TL.call hF (Made_fn hby hbyl hbyb) rfl rfl ?_
 rintro _ _ ⟨fa, fc, fl, ca, cc, cells, top, segs, rfl, hfs, hcs, hask, hc8, rfl⟩
 obtain ⟨hsc, hk⟩ := scn_of hask
 have hc1 := hsc.c1
 have hfl : fl.length < 9223372036854775808 := by have := hsc.many; rw [List.length_map] at this; omega
 refine TL.freeze (segs) rfl (fun S1 w1 hz1 => ?_)
 replace hb := hb.frz hz1
 replace hT := hT.old hz1
 replace hl := hl.old hz1
 replace hfs := hfs.frz hz1
 replace hcs := hcs.frz hz1
 refine TL.move hF rfl rfl ?_
 refine TL.extract hF rfl rfl rfl ?_
 refine TL.extract hF rfl rfl rfl ?_
 refine TL.extract hF rfl rfl rfl ?_
 refine TL.alloc hF rfl (fun b7 => ?_)
 refine TL.assign hF rfl rfl ?_
 refine TL.assign hF rfl rfl ?_
 refine TL.storeAs hF (kC top) (kC top) 0 (cs := [.int .i64 0, .int .i64 0]) rfl rfl rfl rfl (kC1 _) (Nat.le_refl 2) rfl ?_
 refine TL.nil ?_
 refine TQ.then_n ?_
 refine T.seq ?_
 refine T.region ?_
 refine TL.move hF rfl rfl ?_
 refine TL.move hF rfl rfl ?_
 refine TL.len hF rfl rfl ?_
 refine TL.call hF (edits_fn (m := cells.length) hl hll hlb hc1 (by omega)) rfl rfl ?_
 rintro _ _ ⟨ra, rc, ps, segs, rfl, hgl, hp6, hrk, hrc, rfl⟩
 refine TL.freeze (segs) rfl (fun S2 w2 hz2 => ?_)
 replace hb := hb.frz hz2
 replace hT := hT.old hz2
 replace hl := hl.old hz2
 replace hfs := hfs.old hz2
 replace hcs := hcs.old hz2
 replace hgl := hgl.frz hz2
 refine TL.assign hF rfl rfl ?_
 refine TL.nil ?_
 refine TQ.then_n ?_
 refine T.seq ?_
 refine T.seq ?_
 refine T.region ?_
 refine TL.move hF rfl rfl ?_
 refine TL.len hF rfl rfl ?_
 refine TL.bin hF rfl rfl rfl rfl ?_
 refine TL.nil ?_
 refine TQ.then_n ?_
 first | refine T.cond_d rfl (fun ht36 => ?_) (fun ht36 => ?_) | refine T.cond _ rfl (fun ht36 => ?_) (fun ht36 => ?_)
 ·refine T.seq ?_
  refine T.region ?_
  refine TL.call hF (traced_law hT) rfl rfl ?_
  rintro _ _ rfl
  refine TL.assign hF rfl rfl ?_
  refine TL.nil ?_
  refine TQ.then_n ?_
  refine T.ret ?_
  refine TQ.then_r ?_
  exact TQ.retsF [4] _ hb rfl rfl rfl (fun _ => rfl)
 ·refine T.skip ?_
  refine TQ.then_n ?_
  refine T.seq ?_
  have hp0 : 0 < ps.length := by have h : ¬ (ps.length : Int) = 0 := ht36; omega
  have hr0 := hrk _ (List.getElem_mem hp0)
  have hgx : GL kC S2 w2 [] (if rc = 0 then ra else ra.map (·.add (0 * 1))) ([ps[0]] : List EH) := ⟨by
   have h := hgl.row.part (c := rc) (i := 0) (j := 1) (sz := 1) (by simp; omega) (by omega) (by omega)
   have e : ((ps.map ghc).drop (0 * 1)).take ((1 - 0) * 1) = [ghc ps[0]] := by
    cases ps with
    | nil => simp at hp0
    | cons p r => rfl
   rw [e] at h; exact h, fun p hp => by rw [List.mem_singleton.1 hp]; exact hgl.it hp0⟩
  have hpsx : ∀ p ∈ ([ps[0]] : List EH), p.2.1.length ≤ 30 ∧ ∀ x ∈ p.2.1, okEdit cells.length x = true := by
   intro p hp
   rw [List.mem_singleton.1 hp]
   exact ⟨by have := hr0.1; omega, hr0.2⟩
  have hask2 : askedS (fl.map TE.ex) (editS cells ps[0].2.1) top = 0 := asked_edit hask fun x hx => (okEdit_iff.1 (hr0.2 x hx)).2.2
  obtain ⟨ta, wa, lna⟩ := tra_of hask
  obtain ⟨tb, wb, lnb⟩ := tra_of hask2
  have hnl : (editS cells ps[0].2.1).length = cells.length := editS_len _ _
  have hpl : playS (fl.map TE.ex) cells top (erounds ([ps[0]] : List EH)) = ([againstS (traceS (fl.map TE.ex) cells top) (traceS (fl.map TE.ex) (editS cells ps[0].2.1) top) (callsS (fl.map TE.ex) (editS cells ps[0].2.1) top).2], 0) := by
   rw [play_made hask (by simp) hpsx]; rfl
  refine T.drawH 10 mixed ?_
  refine DH.pure (i := 0) [(5, _, none)] rfl rfl rfl rfl ⟨⟨rfl, by kernel_rfl⟩, trivial⟩ (fun _ ext => TL.move hF rfl rfl TL.fin) ?_
  refine DH.pure (i := 1) [(6, _, none)] rfl rfl rfl rfl ⟨⟨rfl, by kernel_rfl⟩, trivial⟩ (fun _ ext => TL.move hF rfl rfl TL.fin) ?_
  refine DH.read (i := 2) [(7, _, none)] rfl rfl rfl rfl ⟨⟨rfl, by kernel_rfl⟩, trivial⟩ (fun ext => TL.loadA hF (kC top) rfl rfl (own_listM (b := b7) (cs := kC top) (e := 25) (fz := (0, 0)) (by simp)) rfl TL.fin) ?_
  refine DH.pure (i := 3) [(8, _, none)] rfl rfl rfl rfl ⟨⟨rfl, by kernel_rfl⟩, trivial⟩ (fun _ ext => TL.move hF rfl rfl TL.fin) ?_
  refine DH.pure (i := 4) [(42, _, some 3)] rfl rfl rfl rfl ⟨⟨rfl, rfl, rfl⟩, trivial⟩ (fun _ ext => TL.slice hF (i := 0) (j := 1) rfl rfl rfl (by omega) (by omega) rfl TL.fin) ?_
  refine DH.heavy 5 [(39, _, some 0), (40, _, some 1), (41, _, some 2), (43, _, some 4)] (by kernel_rfl) (by kernel_rfl) (by kernel_rfl) (by kernel_rfl) rfl rfl rfl rfl ⟨⟨rfl, rfl, rfl⟩, ⟨rfl, rfl, rfl⟩, ⟨rfl, rfl, rfl⟩, ⟨rfl, rfl, rfl⟩, trivial⟩ (by kernel_rfl) (fun ext => ?_)
  refine TL.call hF (Play_fn (η := [(b7, Obj.cells (kC top).toArray 25 (0, 0))] :: η) (fc := fc) (cc := cc) (top := top) (cells := cells) (ps := ([ps[0]] : List EH)) (rc := rc - 0) hT hfs hfl hcs (by omega) hgx (by simp) (fun p hp => by have := (hpsx p hp).1; omega)) rfl rfl ?_
  rintro _ _ ⟨aa, ac, lr, segp, rfl, hlr, hla, hlac, rfl⟩
  rw [hpl] at hlr ⊢
  dsimp only at hlr
  obtain ⟨x, rfl, hx⟩ := rnd1 hlr
  refine TL.finD ?_
  refine DH.pure (i := 6) [(44, _, some 5)] rfl rfl rfl rfl ⟨⟨rfl, rfl, rfl⟩, trivial⟩ (fun _ ext => TL.move hF rfl rfl TL.fin) ?_
  refine DH.pure (i := 7) [(38, _, some 6)] rfl rfl rfl rfl ⟨⟨rfl, rfl, rfl⟩, trivial⟩ (fun _ ext => TL.extract hF rfl rfl rfl TL.fin) ?_
  refine DH.pure (i := 8) [(38, _, some 6)] rfl rfl rfl rfl ⟨⟨rfl, rfl, rfl⟩, trivial⟩ (fun _ ext => TL.extract hF rfl rfl rfl TL.fin) ?_
  refine DH.pure (i := 9) [(45, _, some 7)] rfl rfl rfl rfl ⟨⟨rfl, rfl, rfl⟩, trivial⟩ (fun _ ext => TL.assign hF rfl rfl TL.fin) ?_
  refine DH.done [(9, _), (46, _), (45, _), (38, _), (44, _), (43, _), (42, _), (41, _), (40, _), (39, _)] [_] (by kernel_rfl) (by kernel_rfl) (by kernel_rfl) (by kernel_rfl) rfl rfl ?_
  refine TL.assign hF rfl rfl ?_
  refine TL.nil ?_
  refine TQ.then_n ?_
  refine T.seq ?_
  refine T.region ?_
  refine TL.move hF rfl rfl ?_
  refine TL.move hF rfl rfl ?_
  refine TL.freeze (segp) rfl (fun S3 w3 hz3 => ?_)
  replace hb := hb.frz hz3
  replace hT := hT.old hz3
  replace hl := hl.old hz3
  replace hfs := hfs.old hz3
  replace hcs := hcs.old hz3
  replace hgl := hgl.old hz3
  replace hla := hla.frz hz3
  refine TL.loadA hF (kC top) rfl rfl (own_list (i := 0) (cs := kC top) rfl) rfl ?_
  obtain ⟨NE, hne, hnu, hnm⟩ := needs_made hask
  have q0 := Needs_fn (η := [(b7, Obj.cells (kC top).toArray 25 (0, 0))] :: η) (fc := fc) (top := top) (cells := cells) (cc := cc) hT hfs hfl hcs (by omega)
  rw [hne] at q0
  refine TL.call hF q0 rfl rfl ?_
  rintro _ _ ⟨nda, ndc, segn, rfl, hnd, rfl⟩
  dsimp only at hnd
  refine TL.freeze (segn) rfl (fun S4 w4 hz4 => ?_)
  replace hb := hb.frz hz4
  replace hT := hT.old hz4
  replace hl := hl.old hz4
  replace hfs := hfs.old hz4
  replace hcs := hcs.old hz4
  replace hgl := hgl.old hz4
  replace hla := hla.old hz4
  replace hnd := hnd.frz hz4
  have hnr : ∀ c ∈ NE, 0 ≤ c ∧ c < cells.length := fun c hc => by
   obtain ⟨x, hx, d, hd, h1, rfl⟩ := (hnm c).1 hc
   exact dep_cell hsc.right (by omega) ta hx hd h1
  have hnel : NE.length ≤ 8 := by
   have h1 : NE.length ≤ (List.range cells.length).length := by
    have h2 : (NE.map Int.toNat).length ≤ (List.range cells.length).length := sub_len (by
     rw [List.Nodup, List.pairwise_map]
     refine hnu.imp_of_mem fun {p q} hp hq hpq e => ?_
     have := hnr p hp; have := hnr q hq; omega) fun z hz => by
     obtain ⟨c, hc, rfl⟩ := List.mem_map.1 hz
     have := hnr c hc
     rw [List.mem_range]; omega
    rwa [List.length_map] at h2
   rw [List.length_range] at h1; omega
  refine TL.move hF rfl rfl ?_
  refine TL.extract hF rfl rfl rfl ?_
  refine TL.extract hF rfl rfl rfl ?_
  refine TL.assign hF rfl rfl ?_
  refine TL.assign hF rfl rfl ?_
  refine TL.nil ?_
  refine TQ.then_n ?_
  refine T.seq ?_
  refine T.region ?_
  refine TL.move hF rfl rfl ?_
  refine TL.move hF rfl rfl ?_
  refine TL.loadA hF (kC top) rfl rfl (own_list (i := 0) (cs := kC top) rfl) rfl ?_
  have q1 := Run_fn (η := [(b7, Obj.cells (kC top).toArray 25 (0, 0))] :: η) (fc := fc) (top := top) (cells := cells) (cc := cc) hT hfs hfl hcs (by omega)
  rw [run_made hask] at q1
  refine TL.call hF q1 rfl rfl ?_
  rintro _ _ ⟨oa, oc, lo, sego, rfl, hlo2, hlon, _, rfl⟩
  dsimp only at hlo2
  refine TL.freeze (sego) rfl (fun S5 w5 hz5 => ?_)
  replace hb := hb.frz hz5
  replace hT := hT.old hz5
  replace hl := hl.old hz5
  replace hfs := hfs.old hz5
  replace hcs := hcs.old hz5
  replace hgl := hgl.old hz5
  replace hla := hla.old hz5
  replace hnd := hnd.old hz5
  replace hlon := hlon.frz hz5
  have hlol : lo.length = (traceS (fl.map TE.ex) cells top).length := by have := congrArg List.length hlo2; rw [nds_len] at this; exact this
  refine TL.move hF rfl rfl ?_
  refine TL.extract hF rfl rfl rfl ?_
  refine TL.extract hF rfl rfl rfl ?_
  refine TL.assign hF rfl rfl ?_
  refine TL.assign hF rfl rfl ?_
  refine TL.nil ?_
  refine TQ.then_n ?_
  refine T.seq ?_
  refine T.seq ?_
  refine T.region ?_
  refine TL.move hF rfl rfl ?_
  refine TL.bin hF rfl rfl rfl rfl ?_
  refine TL.move hF rfl rfl ?_
  refine TL.on rfl rfl rfl (by first | rfl | simp) ?_
  refine TL.move hF rfl rfl ?_
  refine TL.on rfl rfl rfl (by first | rfl | simp) ?_
  refine TL.bin hF rfl rfl rfl rfl ?_
  refine TL.pickF hF rfl (by first | rfl | simp) rfl rfl ?_
  refine TL.move hF rfl rfl ?_
  refine TL.on rfl rfl rfl (by first | rfl | simp) ?_
  refine TL.move hF rfl rfl ?_
  refine TL.on rfl rfl rfl (by first | rfl | simp) ?_
  refine TL.bin hF rfl rfl rfl rfl ?_
  refine TL.pickF hF rfl (by first | rfl | simp) rfl rfl ?_
  refine TL.move hF rfl rfl ?_
  refine TL.on rfl rfl rfl (by first | rfl | simp) ?_
  refine TL.move hF rfl rfl ?_
  refine TL.on rfl rfl rfl (by first | rfl | simp) ?_
  refine TL.len hF rfl rfl ?_
  refine TL.on rfl rfl rfl (by first | rfl | simp) ?_
  refine TL.bin hF rfl rfl rfl rfl ?_
  refine TL.pickF hF rfl (by first | rfl | simp) rfl rfl ?_
  refine TL.move hF rfl rfl ?_
  refine TL.on rfl rfl rfl (by first | rfl | simp) ?_
  refine TL.move hF rfl rfl ?_
  refine TL.on rfl rfl rfl (by first | rfl | simp) ?_
  refine TL.move hF rfl rfl ?_
  refine TL.on rfl rfl rfl (by first | rfl | simp) ?_
  refine TL.len hF rfl rfl ?_
  refine TL.on rfl rfl rfl (by first | rfl | simp) ?_
  refine TL.callV hF (Ordered_true (m := cells.length) hnd (by omega) (by omega) hnu hnr) rfl rfl ?_
  refine TL.on rfl rfl rfl (by first | rfl | simp) ?_
  refine TL.not hF rfl rfl ?_
  refine TL.pickF hF rfl (by first | rfl | simp) rfl rfl ?_
  refine TL.nil ?_
  refine TQ.then_n ?_
  refine T.cond_f rfl (by first | rfl | simp) ?_
  refine T.skip ?_
  refine TQ.then_n ?_
  refine T.seq ?_
  refine T.region ?_
  refine TL.move hF rfl rfl ?_
  refine TL.move hF rfl rfl ?_
  refine TL.indexAddr hF rfl rfl (hgl.ad (i := 0) hp0) (by decide) (by omega) rfl ?_
  refine TL.load hF rfl ((hgl.up (by simp)).at (i := 0) hp0) rfl ?_
  refine TL.call hF (edited_fn (η := [(b7, Obj.cells (kC top).toArray 25 (0, 0))] :: η) (cc := cc) hcs.ro (by omega) (by omega) (hgl.it hp0) (by have := hr0.1; omega) hr0.2) rfl rfl ?_
  rintro _ _ ⟨na, nc, segx, rfl, hso, rfl⟩
  have hnx : Row S5 w5 [segx] na (ints (editS cells ps[0].2.1)) := OSl.row hso (by simp)
  refine TL.freeze ([segx]) rfl (fun S6 w6 hz6 => ?_)
  replace hb := hb.frz hz6
  replace hT := hT.old hz6
  replace hl := hl.old hz6
  replace hfs := hfs.old hz6
  replace hcs := hcs.old hz6
  replace hgl := hgl.old hz6
  replace hla := hla.old hz6
  replace hnd := hnd.old hz6
  replace hlon := hlon.old hz6
  replace hnx := hnx.frz hz6
  have hxat : ∀ j v, (rhC x)[j]? = some v → At S6 w6 ([(b7, Obj.cells (kC top).toArray 25 (0, 0))] :: η) ⟨(sAt aa (0 * 5)).block, (sAt aa (0 * 5)).off + j, none⟩ v := fun j v hj => (hla.atA (i := 0) (by simp) j v hj).up (by simp)
  have hm1 := hla.item x (by simp)
  have lx : x.r.again.length + x.r.new.length + x.r.dropped.length ≤ 10000 := by
   rw [hx]; unfold againstS; simp only [keysN, List.length_map]
   have f1 := List.length_filter_le (fun x => !hasN (traceS (fl.map TE.ex) cells top) x.key) (traceS (fl.map TE.ex) (editS cells ps[0].2.1) top)
   have f2 := List.length_filter_le (againB (traceS (fl.map TE.ex) cells top)) (traceS (fl.map TE.ex) (editS cells ps[0].2.1) top)
   have f3 := List.length_filter_le (fun x => !hasN (traceS (fl.map TE.ex) (editS cells ps[0].2.1) top) x.key) (traceS (fl.map TE.ex) cells top)
   omega
  have hcell : ∀ c : Int, 0 ≤ c → c < cells.length → ∀ (h1 : c.toNat < (editS cells ps[0].2.1).length) (h2 : c.toNat < cells.length), (decide ((editS cells ps[0].2.1)[c.toNat] ≠ cells[c.toNat]) = decide (at0 (editS cells ps[0].2.1) c.toNat ≠ at0 cells c.toNat)) := fun c _ _ h1 h2 => by
   rw [at0_get h1, at0_get h2]
  refine TL.assign hF rfl rfl ?_
  refine TL.assign hF rfl rfl ?_
  refine TL.nil ?_
  refine TQ.then_n ?_
  refine T.seq ?_
  refine T.seq ?_
  refine T.region ?_
  refine TL.assign hF rfl rfl ?_
  refine TL.nil ?_
  refine TQ.then_n ?_
  refine T.block ?_
  refine T.loop (ι := Nat × Bool) (fun s => s.1 ≤ NE.length ∧ (s.2 = false → ∀ c ∈ NE.take s.1, at0 (editS cells ps[0].2.1) c.toNat = at0 cells c.toNat)) (fun s => [(4, .bool false), (6, .slice ca cells.length cc), (9, .slice aa 1 ac), (11, .slice nda NE.length ndc), (13, .slice oa lo.length oc), (15, .slice na cells.length nc), (16, .bool s.2), (17, .int .i64 (s.1 : Int))]) (fun s => [(b7, Obj.cells (kC top).toArray 25 (0, 0))] :: η) (fun s => NE.length - s.1) (0, false) ⟨Nat.zero_le _, fun _ c hc => by simp at hc⟩ ⟨rfl, rfl, rfl, rfl, rfl, rfl, rfl, rfl, trivial⟩ rfl ?_
  rintro ⟨i, tch⟩ ⟨hi, htch⟩
  dsimp only at hi htch
  refine T.seq ?_
  refine T.seq ?_
  refine T.region ?_
  refine TL.move hF rfl rfl ?_
  refine TL.move hF rfl rfl ?_
  refine TL.len hF rfl rfl ?_
  refine TL.bin hF rfl rfl rfl rfl ?_
  refine TL.nil ?_
  refine TQ.then_n ?_
  first | refine T.cond_d rfl (fun ht91 => ?_) (fun ht91 => ?_) | refine T.cond _ rfl (fun ht91 => ?_) (fun ht91 => ?_)
  ·refine T.skip ?_
   refine TQ.then_n ?_
   refine T.seq ?_
   refine T.block ?_
   have hil : i < NE.length := by have h : (i : Int) < (NE.length : Int) := ht91; omega
   have hci := hnr _ (List.getElem_mem hil)
   rcases Bool.eq_false_or_eq_true tch with htt | htt
   ·refine T.draw ?_
    refine DR.stepV [_] rfl [(16, _, none)] rfl rfl ⟨⟨rfl, by kernel_rfl⟩, trivial⟩ (fun ext => TL.move hF rfl rfl TL.fin) ?_
    refine DR.stepV [_, _] rfl [(94, _, some 0)] rfl rfl ⟨⟨rfl, rfl, rfl⟩, trivial⟩ (fun ext => TL.move hF rfl rfl TL.fin) ?_
    refine DR.stepV [_, _, _] rfl [(15, _, none), (95, _, some 1)] rfl rfl ⟨⟨rfl, by kernel_rfl⟩, ⟨rfl, rfl, rfl⟩, trivial⟩ (fun ext => TL.off hF rfl rfl rfl htt rfl TL.fin) ?_
    refine DR.stepV [_, _, _, _] rfl [(11, _, none), (95, _, some 1)] rfl rfl ⟨⟨rfl, by kernel_rfl⟩, ⟨rfl, rfl, rfl⟩, trivial⟩ (fun ext => TL.off hF rfl rfl rfl htt rfl TL.fin) ?_
    refine DR.stepV [_, _, _, _, _] rfl [(17, _, none), (95, _, some 1)] rfl rfl ⟨⟨rfl, by kernel_rfl⟩, ⟨rfl, rfl, rfl⟩, trivial⟩ (fun ext => TL.off hF rfl rfl rfl htt rfl TL.fin) ?_
    refine DR.stepV [_, _, _, _, _, _] rfl [(97, _, some 3), (98, _, some 4), (95, _, some 1)] rfl rfl ⟨⟨rfl, rfl, rfl⟩, ⟨rfl, rfl, rfl⟩, ⟨rfl, rfl, rfl⟩, trivial⟩ (fun ext => TL.off hF rfl rfl rfl htt rfl TL.fin) ?_
    refine DR.stepV [_, _, _, _, _, _, _] rfl [(99, _, some 5), (95, _, some 1)] rfl rfl ⟨⟨rfl, rfl, rfl⟩, ⟨rfl, rfl, rfl⟩, trivial⟩ (fun ext => TL.off hF rfl rfl rfl htt rfl TL.fin) ?_
    refine DR.stepV [_, _, _, _, _, _, _, _] rfl [(96, _, some 2), (100, _, some 6), (95, _, some 1)] rfl rfl ⟨⟨rfl, rfl, rfl⟩, ⟨rfl, rfl, rfl⟩, ⟨rfl, rfl, rfl⟩, trivial⟩ (fun ext => TL.off hF rfl rfl rfl htt rfl TL.fin) ?_
    refine DR.stepV [_, _, _, _, _, _, _, _, _] rfl [(101, _, some 7), (95, _, some 1)] rfl rfl ⟨⟨rfl, rfl, rfl⟩, ⟨rfl, rfl, rfl⟩, trivial⟩ (fun ext => TL.off hF rfl rfl rfl htt rfl TL.fin) ?_
    refine DR.stepV [_, _, _, _, _, _, _, _, _, _] rfl [(6, _, none), (95, _, some 1)] rfl rfl ⟨⟨rfl, by kernel_rfl⟩, ⟨rfl, rfl, rfl⟩, trivial⟩ (fun ext => TL.off hF rfl rfl rfl htt rfl TL.fin) ?_
    refine DR.stepV [_, _, _, _, _, _, _, _, _, _, _] rfl [(11, _, none), (95, _, some 1)] rfl rfl ⟨⟨rfl, by kernel_rfl⟩, ⟨rfl, rfl, rfl⟩, trivial⟩ (fun ext => TL.off hF rfl rfl rfl htt rfl TL.fin) ?_
    refine DR.stepV [_, _, _, _, _, _, _, _, _, _, _, _] rfl [(17, _, none), (95, _, some 1)] rfl rfl ⟨⟨rfl, by kernel_rfl⟩, ⟨rfl, rfl, rfl⟩, trivial⟩ (fun ext => TL.off hF rfl rfl rfl htt rfl TL.fin) ?_
    refine DR.stepV [_, _, _, _, _, _, _, _, _, _, _, _, _] rfl [(104, _, some 10), (105, _, some 11), (95, _, some 1)] rfl rfl ⟨⟨rfl, rfl, rfl⟩, ⟨rfl, rfl, rfl⟩, ⟨rfl, rfl, rfl⟩, trivial⟩ (fun ext => TL.off hF rfl rfl rfl htt rfl TL.fin) ?_
    refine DR.stepV [_, _, _, _, _, _, _, _, _, _, _, _, _, _] rfl [(106, _, some 12), (95, _, some 1)] rfl rfl ⟨⟨rfl, rfl, rfl⟩, ⟨rfl, rfl, rfl⟩, trivial⟩ (fun ext => TL.off hF rfl rfl rfl htt rfl TL.fin) ?_
    refine DR.stepV [_, _, _, _, _, _, _, _, _, _, _, _, _, _, _] rfl [(103, _, some 9), (107, _, some 13), (95, _, some 1)] rfl rfl ⟨⟨rfl, rfl, rfl⟩, ⟨rfl, rfl, rfl⟩, ⟨rfl, rfl, rfl⟩, trivial⟩ (fun ext => TL.off hF rfl rfl rfl htt rfl TL.fin) ?_
    refine DR.stepV [_, _, _, _, _, _, _, _, _, _, _, _, _, _, _, _] rfl [(108, _, some 14), (95, _, some 1)] rfl rfl ⟨⟨rfl, rfl, rfl⟩, ⟨rfl, rfl, rfl⟩, trivial⟩ (fun ext => TL.off hF rfl rfl rfl htt rfl TL.fin) ?_
    refine DR.done [(109, _), (108, _), (107, _), (106, _), (105, _), (104, _), (103, _), (102, _), (101, _), (100, _), (99, _), (98, _), (97, _), (96, _), (95, _), (94, _)] [_, _, _] mixed (by kernel_rfl) (by kernel_rfl) (by kernel_rfl) rfl rfl ?_
    refine TL.off hF rfl rfl rfl htt rfl ?_
    refine TL.pickT hF rfl htt rfl rfl ?_
    refine TL.assign hF rfl rfl ?_
    refine TL.nil ?_
    refine TQ.block_n ?_
    refine TQ.then_n ?_
    refine T.region ?_
    refine TL.move hF rfl rfl ?_
    refine TL.add hF rfl rfl (by dsimp only; omega) (by dsimp only; omega) rfl ?_
    refine TL.assign hF rfl rfl ?_
    refine TL.nil ?_
    refine TQ.round (i + 1, true) ⟨by dsimp only; omega, fun h => by cases h⟩ (by dsimp only; omega) ⟨rfl, rfl, rfl, rfl, rfl, rfl, rfl, rfl, trivial⟩ rfl
   ·refine T.draw ?_
    refine DR.stepV [_] rfl [(16, _, none)] rfl rfl ⟨⟨rfl, by kernel_rfl⟩, trivial⟩ (fun ext => TL.move hF rfl rfl TL.fin) ?_
    refine DR.stepV [_, _] rfl [(94, _, some 0)] rfl rfl ⟨⟨rfl, rfl, rfl⟩, trivial⟩ (fun ext => TL.move hF rfl rfl TL.fin) ?_
    refine DR.stepV [_, _, _] rfl [(15, _, none), (95, _, some 1)] rfl rfl ⟨⟨rfl, by kernel_rfl⟩, ⟨rfl, rfl, rfl⟩, trivial⟩ (fun ext => TL.on rfl rfl rfl htt <| TL.move hF rfl rfl TL.fin) ?_
    refine DR.stepV [_, _, _, _] rfl [(11, _, none), (95, _, some 1)] rfl rfl ⟨⟨rfl, by kernel_rfl⟩, ⟨rfl, rfl, rfl⟩, trivial⟩ (fun ext => TL.on rfl rfl rfl htt <| TL.move hF rfl rfl TL.fin) ?_
    refine DR.stepV [_, _, _, _, _] rfl [(17, _, none), (95, _, some 1)] rfl rfl ⟨⟨rfl, by kernel_rfl⟩, ⟨rfl, rfl, rfl⟩, trivial⟩ (fun ext => TL.on rfl rfl rfl htt <| TL.move hF rfl rfl TL.fin) ?_
    refine DR.stepV [_, _, _, _, _, _] rfl [(97, _, some 3), (98, _, some 4), (95, _, some 1)] rfl rfl ⟨⟨rfl, rfl, rfl⟩, ⟨rfl, rfl, rfl⟩, ⟨rfl, rfl, rfl⟩, trivial⟩ (fun ext => TL.on rfl rfl rfl htt <| TL.indexAddr hF rfl rfl (hnd.adi (i := i) (by simpa using hil)) (by omega) (by omega) rfl TL.fin) ?_
    refine DR.stepV [_, _, _, _, _, _, _] rfl [(99, _, some 5), (95, _, some 1)] rfl rfl ⟨⟨rfl, rfl, rfl⟩, ⟨rfl, rfl, rfl⟩, trivial⟩ (fun ext => TL.on rfl rfl rfl htt <| TL.load hF rfl (hnd.ro.int (i := i) hil) rfl TL.fin) ?_
    refine DR.stepV [_, _, _, _, _, _, _, _] rfl [(96, _, some 2), (100, _, some 6), (95, _, some 1)] rfl rfl ⟨⟨rfl, rfl, rfl⟩, ⟨rfl, rfl, rfl⟩, ⟨rfl, rfl, rfl⟩, trivial⟩ (fun ext => TL.on rfl rfl rfl htt <| TL.indexAddr hF rfl rfl (hnx.adi (i := NE[i].toNat) (by simp; omega)) (by omega) (by omega) rfl TL.fin) ?_
    refine DR.stepV [_, _, _, _, _, _, _, _, _] rfl [(101, _, some 7), (95, _, some 1)] rfl rfl ⟨⟨rfl, rfl, rfl⟩, ⟨rfl, rfl, rfl⟩, trivial⟩ (fun ext => TL.on rfl rfl rfl htt <| TL.load hF rfl (hnx.ro.int (i := NE[i].toNat) (by omega)) rfl TL.fin) ?_
    refine DR.stepV [_, _, _, _, _, _, _, _, _, _] rfl [(6, _, none), (95, _, some 1)] rfl rfl ⟨⟨rfl, by kernel_rfl⟩, ⟨rfl, rfl, rfl⟩, trivial⟩ (fun ext => TL.on rfl rfl rfl htt <| TL.move hF rfl rfl TL.fin) ?_
    refine DR.stepV [_, _, _, _, _, _, _, _, _, _, _] rfl [(11, _, none), (95, _, some 1)] rfl rfl ⟨⟨rfl, by kernel_rfl⟩, ⟨rfl, rfl, rfl⟩, trivial⟩ (fun ext => TL.on rfl rfl rfl htt <| TL.move hF rfl rfl TL.fin) ?_
    refine DR.stepV [_, _, _, _, _, _, _, _, _, _, _, _] rfl [(17, _, none), (95, _, some 1)] rfl rfl ⟨⟨rfl, by kernel_rfl⟩, ⟨rfl, rfl, rfl⟩, trivial⟩ (fun ext => TL.on rfl rfl rfl htt <| TL.move hF rfl rfl TL.fin) ?_
    refine DR.stepV [_, _, _, _, _, _, _, _, _, _, _, _, _] rfl [(104, _, some 10), (105, _, some 11), (95, _, some 1)] rfl rfl ⟨⟨rfl, rfl, rfl⟩, ⟨rfl, rfl, rfl⟩, ⟨rfl, rfl, rfl⟩, trivial⟩ (fun ext => TL.on rfl rfl rfl htt <| TL.indexAddr hF rfl rfl (hnd.adi (i := i) (by simpa using hil)) (by omega) (by omega) rfl TL.fin) ?_
    refine DR.stepV [_, _, _, _, _, _, _, _, _, _, _, _, _, _] rfl [(106, _, some 12), (95, _, some 1)] rfl rfl ⟨⟨rfl, rfl, rfl⟩, ⟨rfl, rfl, rfl⟩, trivial⟩ (fun ext => TL.on rfl rfl rfl htt <| TL.load hF rfl (hnd.ro.int (i := i) hil) rfl TL.fin) ?_
    refine DR.stepV [_, _, _, _, _, _, _, _, _, _, _, _, _, _, _] rfl [(103, _, some 9), (107, _, some 13), (95, _, some 1)] rfl rfl ⟨⟨rfl, rfl, rfl⟩, ⟨rfl, rfl, rfl⟩, ⟨rfl, rfl, rfl⟩, trivial⟩ (fun ext => TL.on rfl rfl rfl htt <| TL.indexAddr hF rfl rfl (hcs.adi (i := NE[i].toNat) (by simp; omega)) (by omega) (by omega) rfl TL.fin) ?_
    refine DR.stepV [_, _, _, _, _, _, _, _, _, _, _, _, _, _, _, _] rfl [(108, _, some 14), (95, _, some 1)] rfl rfl ⟨⟨rfl, rfl, rfl⟩, ⟨rfl, rfl, rfl⟩, trivial⟩ (fun ext => TL.on rfl rfl rfl htt <| TL.load hF rfl (hcs.ro.int (i := NE[i].toNat) (by omega)) rfl TL.fin) ?_
    refine DR.done [(109, _), (108, _), (107, _), (106, _), (105, _), (104, _), (103, _), (102, _), (101, _), (100, _), (99, _), (98, _), (97, _), (96, _), (95, _), (94, _)] [_, _, _] mixed (by kernel_rfl) (by kernel_rfl) (by kernel_rfl) rfl rfl ?_
    refine TL.on rfl rfl rfl htt ?_
    refine TL.bin hF rfl rfl rfl rfl ?_
    refine TL.pickF hF rfl htt rfl rfl ?_
    refine TL.assign hF rfl rfl ?_
    refine TL.nil ?_
    refine TQ.block_n ?_
    refine TQ.then_n ?_
    refine T.region ?_
    refine TL.move hF rfl rfl ?_
    refine TL.add hF rfl rfl (by dsimp only; omega) (by dsimp only; omega) rfl ?_
    refine TL.assign hF rfl rfl ?_
    refine TL.nil ?_
    refine TQ.round (i + 1, decide ((editS cells ps[0].2.1)[NE[i].toNat] ≠ cells[NE[i].toNat])) ⟨by dsimp only; omega, fun h c hc => ?_⟩ (by dsimp only; omega) ⟨rfl, rfl, rfl, rfl, rfl, rfl, rfl, rfl, trivial⟩ rfl
    rw [List.take_succ_eq_append_getElem hil] at hc
    rcases List.mem_append.1 hc with hc | hc
    ·exact htch htt c hc
    ·rw [List.mem_singleton.1 hc]
     dsimp only at h
     rw [hcell _ hci.1 hci.2] at h
     simpa using h
  ·refine T.exit ?_
   refine TQ.then_x ?_
   refine TQ.then_x ?_
   refine TQ.block_x ?_
   refine TQ.then_n ?_
   refine T.cut (ι := Unit) (fun _ => True) (fun _ => [(4, .bool false), (6, .slice ca cells.length cc), (9, .slice aa 1 ac), (13, .slice oa lo.length oc), (15, .slice na cells.length nc)]) (fun _ => [(b7, Obj.cells (kC top).toArray 25 (0, 0))] :: η) ?_ ?_
   ·refine T.seq ?_
    have hie : NE.length ≤ i := by have h : ¬ (i : Int) < (NE.length : Int) := ht91; omega
    rcases Bool.eq_false_or_eq_true tch with htt | htt
    ·skip
     refine T.draw ?_
     refine DR.stepV [_] rfl [(16, _, none)] rfl rfl ⟨⟨rfl, by kernel_rfl⟩, trivial⟩ (fun ext => TL.move hF rfl rfl TL.fin) ?_
     refine DR.stepV [_, _] rfl [(112, _, some 0)] rfl rfl ⟨⟨rfl, rfl, rfl⟩, trivial⟩ (fun ext => TL.not hF rfl rfl TL.fin) ?_
     refine DR.stepV [_, _, _] rfl [(113, _, some 1)] rfl rfl ⟨⟨rfl, rfl, rfl⟩, trivial⟩ (fun ext => TL.move hF rfl rfl TL.fin) ?_
     refine DR.stepV [_, _, _, _] rfl [(9, _, none), (114, _, some 2)] rfl rfl ⟨⟨rfl, by kernel_rfl⟩, ⟨rfl, rfl, rfl⟩, trivial⟩ (fun ext => TL.off hF rfl rfl rfl (by simp [htt]) rfl TL.fin) ?_
     refine DR.stepV [_, _, _, _, _] rfl [(115, _, some 3), (114, _, some 2)] rfl rfl ⟨⟨rfl, rfl, rfl⟩, ⟨rfl, rfl, rfl⟩, trivial⟩ (fun ext => TL.off hF rfl rfl rfl (by simp [htt]) rfl TL.fin) ?_
     refine DR.stepV [_, _, _, _, _, _] rfl [(116, _, some 4), (114, _, some 2)] rfl rfl ⟨⟨rfl, rfl, rfl⟩, ⟨rfl, rfl, rfl⟩, trivial⟩ (fun ext => TL.off hF rfl rfl rfl (by simp [htt]) rfl TL.fin) ?_
     refine DR.stepV [_, _, _, _, _, _, _] rfl [(117, _, some 5), (114, _, some 2)] rfl rfl ⟨⟨rfl, rfl, rfl⟩, ⟨rfl, rfl, rfl⟩, trivial⟩ (fun ext => TL.off hF rfl rfl rfl (by simp [htt]) rfl TL.fin) ?_
     refine DR.stepV [_, _, _, _, _, _, _, _] rfl [(118, _, some 6), (114, _, some 2)] rfl rfl ⟨⟨rfl, rfl, rfl⟩, ⟨rfl, rfl, rfl⟩, trivial⟩ (fun ext => TL.off hF rfl rfl rfl (by simp [htt]) rfl TL.fin) ?_
     refine DR.stepV [_, _, _, _, _, _, _, _, _] rfl [(9, _, none), (114, _, some 2)] rfl rfl ⟨⟨rfl, by kernel_rfl⟩, ⟨rfl, rfl, rfl⟩, trivial⟩ (fun ext => TL.off hF rfl rfl rfl (by simp [htt]) rfl TL.fin) ?_
     refine DR.stepV [_, _, _, _, _, _, _, _, _, _] rfl [(120, _, some 8), (114, _, some 2)] rfl rfl ⟨⟨rfl, rfl, rfl⟩, ⟨rfl, rfl, rfl⟩, trivial⟩ (fun ext => TL.off hF rfl rfl rfl (by simp [htt]) rfl TL.fin) ?_
     refine DR.stepV [_, _, _, _, _, _, _, _, _, _, _] rfl [(121, _, some 9), (114, _, some 2)] rfl rfl ⟨⟨rfl, rfl, rfl⟩, ⟨rfl, rfl, rfl⟩, trivial⟩ (fun ext => TL.off hF rfl rfl rfl (by simp [htt]) rfl TL.fin) ?_
     refine DR.stepV [_, _, _, _, _, _, _, _, _, _, _, _] rfl [(122, _, some 10), (114, _, some 2)] rfl rfl ⟨⟨rfl, rfl, rfl⟩, ⟨rfl, rfl, rfl⟩, trivial⟩ (fun ext => TL.off hF rfl rfl rfl (by simp [htt]) rfl TL.fin) ?_
     refine DR.stepV [_, _, _, _, _, _, _, _, _, _, _, _, _] rfl [(123, _, some 11), (114, _, some 2)] rfl rfl ⟨⟨rfl, rfl, rfl⟩, ⟨rfl, rfl, rfl⟩, trivial⟩ (fun ext => TL.off hF rfl rfl rfl (by simp [htt]) rfl TL.fin) ?_
     refine DR.stepV [_, _, _, _, _, _, _, _, _, _, _, _, _, _] rfl [(119, _, some 7), (124, _, some 12), (114, _, some 2)] rfl rfl ⟨⟨rfl, rfl, rfl⟩, ⟨rfl, rfl, rfl⟩, ⟨rfl, rfl, rfl⟩, trivial⟩ (fun ext => TL.off hF rfl rfl rfl (by simp [htt]) rfl TL.fin) ?_
     refine DR.stepV [_, _, _, _, _, _, _, _, _, _, _, _, _, _, _] rfl [(9, _, none), (114, _, some 2)] rfl rfl ⟨⟨rfl, by kernel_rfl⟩, ⟨rfl, rfl, rfl⟩, trivial⟩ (fun ext => TL.off hF rfl rfl rfl (by simp [htt]) rfl TL.fin) ?_
     refine DR.stepV [_, _, _, _, _, _, _, _, _, _, _, _, _, _, _, _] rfl [(126, _, some 14), (114, _, some 2)] rfl rfl ⟨⟨rfl, rfl, rfl⟩, ⟨rfl, rfl, rfl⟩, trivial⟩ (fun ext => TL.off hF rfl rfl rfl (by simp [htt]) rfl TL.fin) ?_
     refine DR.stepV [_, _, _, _, _, _, _, _, _, _, _, _, _, _, _, _, _] rfl [(127, _, some 15), (114, _, some 2)] rfl rfl ⟨⟨rfl, rfl, rfl⟩, ⟨rfl, rfl, rfl⟩, trivial⟩ (fun ext => TL.off hF rfl rfl rfl (by simp [htt]) rfl TL.fin) ?_
     refine DR.stepV [_, _, _, _, _, _, _, _, _, _, _, _, _, _, _, _, _, _] rfl [(128, _, some 16), (114, _, some 2)] rfl rfl ⟨⟨rfl, rfl, rfl⟩, ⟨rfl, rfl, rfl⟩, trivial⟩ (fun ext => TL.off hF rfl rfl rfl (by simp [htt]) rfl TL.fin) ?_
     refine DR.stepV [_, _, _, _, _, _, _, _, _, _, _, _, _, _, _, _, _, _, _] rfl [(129, _, some 17), (114, _, some 2)] rfl rfl ⟨⟨rfl, rfl, rfl⟩, ⟨rfl, rfl, rfl⟩, trivial⟩ (fun ext => TL.off hF rfl rfl rfl (by simp [htt]) rfl TL.fin) ?_
     refine DR.done [(130, _), (129, _), (128, _), (127, _), (126, _), (125, _), (124, _), (123, _), (122, _), (121, _), (120, _), (119, _), (118, _), (117, _), (116, _), (115, _), (114, _), (113, _), (112, _)] [_, _, _] mixed (by kernel_rfl) (by kernel_rfl) (by kernel_rfl) rfl rfl ?_
     refine TL.off hF rfl rfl rfl (by simp [htt]) rfl ?_
     refine TL.off hF rfl rfl rfl (by simp [htt]) rfl ?_
     refine TL.pickF hF rfl (by simp [htt]) rfl rfl ?_
     refine TL.nil ?_
     refine TQ.then_n ?_
     refine T.cond_f rfl rfl ?_
     refine T.skip ?_
     exact TQ.cut () trivial ⟨rfl, rfl, rfl, rfl, rfl, trivial⟩ rfl
    ·skip
     refine T.draw ?_
     refine DR.stepV [_] rfl [(16, _, none)] rfl rfl ⟨⟨rfl, by kernel_rfl⟩, trivial⟩ (fun ext => TL.move hF rfl rfl TL.fin) ?_
     refine DR.stepV [_, _] rfl [(112, _, some 0)] rfl rfl ⟨⟨rfl, rfl, rfl⟩, trivial⟩ (fun ext => TL.not hF rfl rfl TL.fin) ?_
     refine DR.stepV [_, _, _] rfl [(113, _, some 1)] rfl rfl ⟨⟨rfl, rfl, rfl⟩, trivial⟩ (fun ext => TL.move hF rfl rfl TL.fin) ?_
     refine DR.stepV [_, _, _, _] rfl [(9, _, none), (114, _, some 2)] rfl rfl ⟨⟨rfl, by kernel_rfl⟩, ⟨rfl, rfl, rfl⟩, trivial⟩ (fun ext => TL.on rfl rfl rfl (by simp [htt]) <| TL.move hF rfl rfl TL.fin) ?_
     refine DR.stepV [_, _, _, _, _] rfl [(115, _, some 3), (114, _, some 2)] rfl rfl ⟨⟨rfl, rfl, rfl⟩, ⟨rfl, rfl, rfl⟩, trivial⟩ (fun ext => TL.on rfl rfl rfl (by simp [htt]) <| TL.indexAddr hF rfl rfl (hla.ad (i := 0) (by simp)) (by decide) (by simp) rfl TL.fin) ?_
     refine DR.stepV [_, _, _, _, _, _] rfl [(116, _, some 4), (114, _, some 2)] rfl rfl ⟨⟨rfl, rfl, rfl⟩, ⟨rfl, rfl, rfl⟩, trivial⟩ (fun ext => TL.on rfl rfl rfl (by simp [htt]) <| TL.fieldAddr hF rfl rfl TL.fin) ?_
     refine DR.stepV [_, _, _, _, _, _, _] rfl [(117, _, some 5), (114, _, some 2)] rfl rfl ⟨⟨rfl, rfl, rfl⟩, ⟨rfl, rfl, rfl⟩, trivial⟩ (fun ext => TL.on rfl rfl rfl (by simp [htt]) <| TL.load hF rfl (hxat 2 _ rfl) rfl TL.fin) ?_
     refine DR.stepV [_, _, _, _, _, _, _, _] rfl [(118, _, some 6), (114, _, some 2)] rfl rfl ⟨⟨rfl, rfl, rfl⟩, ⟨rfl, rfl, rfl⟩, trivial⟩ (fun ext => TL.on rfl rfl rfl (by simp [htt]) <| TL.len hF rfl rfl TL.fin) ?_
     refine DR.stepV [_, _, _, _, _, _, _, _, _] rfl [(9, _, none), (114, _, some 2)] rfl rfl ⟨⟨rfl, by kernel_rfl⟩, ⟨rfl, rfl, rfl⟩, trivial⟩ (fun ext => TL.on rfl rfl rfl (by simp [htt]) <| TL.move hF rfl rfl TL.fin) ?_
     refine DR.stepV [_, _, _, _, _, _, _, _, _, _] rfl [(120, _, some 8), (114, _, some 2)] rfl rfl ⟨⟨rfl, rfl, rfl⟩, ⟨rfl, rfl, rfl⟩, trivial⟩ (fun ext => TL.on rfl rfl rfl (by simp [htt]) <| TL.indexAddr hF rfl rfl (hla.ad (i := 0) (by simp)) (by decide) (by simp) rfl TL.fin) ?_
     refine DR.stepV [_, _, _, _, _, _, _, _, _, _, _] rfl [(121, _, some 9), (114, _, some 2)] rfl rfl ⟨⟨rfl, rfl, rfl⟩, ⟨rfl, rfl, rfl⟩, trivial⟩ (fun ext => TL.on rfl rfl rfl (by simp [htt]) <| TL.fieldAddr hF rfl rfl TL.fin) ?_
     refine DR.stepV [_, _, _, _, _, _, _, _, _, _, _, _] rfl [(122, _, some 10), (114, _, some 2)] rfl rfl ⟨⟨rfl, rfl, rfl⟩, ⟨rfl, rfl, rfl⟩, trivial⟩ (fun ext => TL.on rfl rfl rfl (by simp [htt]) <| TL.load hF rfl (hxat 1 _ rfl) rfl TL.fin) ?_
     refine DR.stepV [_, _, _, _, _, _, _, _, _, _, _, _, _] rfl [(123, _, some 11), (114, _, some 2)] rfl rfl ⟨⟨rfl, rfl, rfl⟩, ⟨rfl, rfl, rfl⟩, trivial⟩ (fun ext => TL.on rfl rfl rfl (by simp [htt]) <| TL.len hF rfl rfl TL.fin) ?_
     refine DR.stepV [_, _, _, _, _, _, _, _, _, _, _, _, _, _] rfl [(119, _, some 7), (124, _, some 12), (114, _, some 2)] rfl rfl ⟨⟨rfl, rfl, rfl⟩, ⟨rfl, rfl, rfl⟩, ⟨rfl, rfl, rfl⟩, trivial⟩ (fun ext => TL.on rfl rfl rfl (by simp [htt]) <| TL.add hF rfl rfl (by omega) (by omega) rfl TL.fin) ?_
     refine DR.stepV [_, _, _, _, _, _, _, _, _, _, _, _, _, _, _] rfl [(9, _, none), (114, _, some 2)] rfl rfl ⟨⟨rfl, by kernel_rfl⟩, ⟨rfl, rfl, rfl⟩, trivial⟩ (fun ext => TL.on rfl rfl rfl (by simp [htt]) <| TL.move hF rfl rfl TL.fin) ?_
     refine DR.stepV [_, _, _, _, _, _, _, _, _, _, _, _, _, _, _, _] rfl [(126, _, some 14), (114, _, some 2)] rfl rfl ⟨⟨rfl, rfl, rfl⟩, ⟨rfl, rfl, rfl⟩, trivial⟩ (fun ext => TL.on rfl rfl rfl (by simp [htt]) <| TL.indexAddr hF rfl rfl (hla.ad (i := 0) (by simp)) (by decide) (by simp) rfl TL.fin) ?_
     refine DR.stepV [_, _, _, _, _, _, _, _, _, _, _, _, _, _, _, _, _] rfl [(127, _, some 15), (114, _, some 2)] rfl rfl ⟨⟨rfl, rfl, rfl⟩, ⟨rfl, rfl, rfl⟩, trivial⟩ (fun ext => TL.on rfl rfl rfl (by simp [htt]) <| TL.fieldAddr hF rfl rfl TL.fin) ?_
     refine DR.stepV [_, _, _, _, _, _, _, _, _, _, _, _, _, _, _, _, _, _] rfl [(128, _, some 16), (114, _, some 2)] rfl rfl ⟨⟨rfl, rfl, rfl⟩, ⟨rfl, rfl, rfl⟩, trivial⟩ (fun ext => TL.on rfl rfl rfl (by simp [htt]) <| TL.load hF rfl (hxat 4 _ rfl) rfl TL.fin) ?_
     refine DR.stepV [_, _, _, _, _, _, _, _, _, _, _, _, _, _, _, _, _, _, _] rfl [(129, _, some 17), (114, _, some 2)] rfl rfl ⟨⟨rfl, rfl, rfl⟩, ⟨rfl, rfl, rfl⟩, trivial⟩ (fun ext => TL.on rfl rfl rfl (by simp [htt]) <| TL.len hF rfl rfl TL.fin) ?_
     refine DR.done [(130, _), (129, _), (128, _), (127, _), (126, _), (125, _), (124, _), (123, _), (122, _), (121, _), (120, _), (119, _), (118, _), (117, _), (116, _), (115, _), (114, _), (113, _), (112, _)] [_, _, _] mixed (by kernel_rfl) (by kernel_rfl) (by kernel_rfl) rfl rfl ?_
     refine TL.on rfl rfl rfl (by simp [htt]) ?_
     refine TL.add hF rfl rfl (by omega) (by omega) rfl ?_
     refine TL.on rfl rfl rfl (by simp [htt]) ?_
     refine TL.bin hF rfl rfl rfl rfl ?_
     refine TL.pickT hF rfl (by simp [htt]) rfl rfl ?_
     refine TL.nil ?_
     refine TQ.then_n ?_
     refine T.cond_f rfl (by first | rfl | exact decide_eq_false (by
      have hst : StableC (traceS (fl.map TE.ex) cells top) cells (editS cells ps[0].2.1) := fun x hx d hd hc => by
       have h1 := htch htt d.cell
       rw [List.take_of_length_le (by omega)] at h1
       exact h1 ((hnm _).2 ⟨x, hx, d, hd, hc, rfl⟩)
      have heq := stable hsc.right hnl.symm ta tb hst
      have hx2 := hx
      rw [← heq, against_self _ ta.up] at hx2
      rw [hx2]; simp)) ?_
     refine T.skip ?_
     exact TQ.cut () trivial ⟨rfl, rfl, rfl, rfl, rfl, trivial⟩ rfl
   ·rintro _ _
    refine T.seq ?_
    refine T.seq ?_
    refine T.region ?_
    refine TL.assign hF rfl rfl ?_
    refine TL.nil ?_
    refine TQ.then_n ?_
    refine T.block ?_
    refine T.loop (ι := Nat) (fun s => s ≤ x.r.again.length) (fun s => [(4, .bool false), (6, .slice ca cells.length cc), (9, .slice aa 1 ac), (13, .slice oa lo.length oc), (15, .slice na cells.length nc), (18, .int .i64 (s : Int))]) (fun s => [(b7, Obj.cells (kC top).toArray 25 (0, 0))] :: η) (fun s => x.r.again.length - s) 0 (Nat.zero_le _) ⟨rfl, rfl, rfl, rfl, rfl, rfl, trivial⟩ rfl ?_
    rintro i2 hi2
    refine T.seq ?_
    refine T.seq ?_
    refine T.region ?_
    refine TL.move hF rfl rfl ?_
    refine TL.move hF rfl rfl ?_
    refine TL.indexAddr hF rfl rfl (hla.ad (i := 0) (by simp)) (by decide) (by simp) rfl ?_
    refine TL.fieldAddr hF rfl rfl ?_
    refine TL.load hF rfl (hxat 1 _ rfl) rfl ?_
    refine TL.len hF rfl rfl ?_
    refine TL.bin hF rfl rfl rfl rfl ?_
    refine TL.nil ?_
    refine TQ.then_n ?_
    first | refine T.cond_d rfl (fun ht140 => ?_) (fun ht140 => ?_) | refine T.cond _ rfl (fun ht140 => ?_) (fun ht140 => ?_)
    ·refine T.skip ?_
     refine TQ.then_n ?_
     refine T.seq ?_
     refine T.block ?_
     refine T.seq ?_
     refine T.region ?_
     refine TL.move hF rfl rfl ?_
     refine TL.move hF rfl rfl ?_
     refine TL.indexAddr hF rfl rfl (hla.ad (i := 0) (by simp)) (by decide) (by simp) rfl ?_
     refine TL.fieldAddr hF rfl rfl ?_
     refine TL.load hF rfl (hxat 1 _ rfl) rfl ?_
     refine TL.move hF rfl rfl ?_
     have hil2 : i2 < x.r.again.length := by have h : (i2 : Int) < (x.r.again.length : Int) := ht140; omega
     refine TL.indexAddr hF rfl rfl (hm1.r1.tad kC_len (by decide) hil2) (by omega) (by omega) rfl ?_
     refine TL.loadA hF (kC x.r.again[i2]) rfl rfl (hm1.r1.ro.tabA kC_len (i := i2) hil2) rfl ?_
     refine TL.call hF (node_fn (k := x.r.again[i2]) (c := oc) hlon (by omega)) rfl rfl ?_
     rintro _ _ ⟨y, hb', rfl, hy, rfl⟩
     have hka : x.r.again[i2] ∈ keysN ((traceS (fl.map TE.ex) (editS cells ps[0].2.1) top).filter (againB (traceS (fl.map TE.ex) cells top))) := by
      have h1 : x.r.again = keysN ((traceS (fl.map TE.ex) (editS cells ps[0].2.1) top).filter (againB (traceS (fl.map TE.ex) cells top))) := by rw [hx]; rfl
      rw [← h1]; exact List.getElem_mem hil2
     obtain ⟨yn, hyn, hwhy⟩ := why_again hsc.right hnl.symm (by omega) ta tb hka
     obtain rfl : hb' = true := by rw [hy.has, hlo2]; unfold hasN; rw [hyn]; rfl
     obtain ⟨hym, hyf⟩ := hy.1 rfl
     have hye : y.nd = yn := by rw [hlo2, hyn] at hyf; exact (Option.some.inj hyf).symm
     have hyA : y.nd ∈ (traceS (fl.map TE.ex) cells top) := by rw [← hlo2]; exact List.mem_map_of_mem hym
     have hwy : ∃ d ∈ y.nd.deps, WhyC cells (editS cells ps[0].2.1) x.r.again d := by
      obtain ⟨d, hd, h⟩ := hwhy
      refine ⟨d, hye ▸ hd, ?_⟩
      have h1 : x.r.again = keysN ((traceS (fl.map TE.ex) (editS cells ps[0].2.1) top).filter (againB (traceS (fl.map TE.ex) cells top))) := by rw [hx]; rfl
      rw [h1]
      rcases h with ⟨h1, _, _, h2⟩ | h
      ·exact .inl ⟨h1, h2⟩
      ·exact .inr h
     have hyI := hlon.item y hym
     have hyd := hyI.row
     have hydl := hyI.len
     refine TL.move hF rfl rfl ?_
     refine TL.extract hF rfl rfl rfl ?_
     refine TL.extract hF rfl rfl rfl ?_
     refine TL.alloc hF rfl (fun b19 => ?_)
     refine TL.storeAs hF (nhC y) (nhC y) 0 (cs := [.int .i64 0, .int .i64 0, .int .i64 0, .slice none 0 0]) rfl rfl rfl rfl (nhC1 _) (Nat.le_refl 4) rfl ?_
     refine TL.assign hF rfl rfl ?_
     refine TL.nil ?_
     refine TQ.then_n ?_
     refine T.seq ?_
     refine T.region ?_
     refine TL.assign hF rfl rfl ?_
     refine TL.nil ?_
     refine TQ.then_n ?_
     refine T.seq ?_
     refine T.seq ?_
     refine T.region ?_
     refine TL.assign hF rfl rfl ?_
     refine TL.nil ?_
     refine TQ.then_n ?_
     refine T.block ?_
     refine T.loop (ι := KS) (fun s => s.k ≤ y.nd.deps.length ∧ (s.why = false → ∀ d ∈ y.nd.deps.take s.k, ¬ WhyC cells (editS cells ps[0].2.1) x.r.again d)) (fun s => [(4, .bool false), (6, .slice ca cells.length cc), (9, .slice aa 1 ac), (13, .slice oa lo.length oc), (15, .slice na cells.length nc), (18, .int .i64 (i2 : Int)), (19, ptr b19), (20, .bool true), (21, .bool s.why), (22, .int .i64 (s.k : Int))]) (fun s => [(b19, Obj.cells (nhC y).toArray 43 (0, 0))] :: ([(b7, Obj.cells (kC top).toArray 25 (0, 0))] :: η)) (fun s => y.nd.deps.length - s.k) ⟨0, false⟩ ⟨Nat.zero_le _, fun _ d hd => by simp at hd⟩ ⟨rfl, rfl, rfl, rfl, rfl, rfl, rfl, rfl, rfl, rfl, trivial⟩ rfl ?_
     rintro ⟨k, why⟩ ⟨hk, hwn⟩
     dsimp only at hk hwn
     refine T.seq ?_
     refine T.seq ?_
     refine T.region ?_
     refine TL.move hF rfl rfl ?_
     refine TL.fieldAddr hF rfl rfl ?_
     refine TL.load hF rfl (own_mem (b := b19) (cs := (nhC y).toArray) (e := 43) (fz := (0, 0)) (by simp) rfl) rfl ?_
     refine TL.len hF rfl rfl ?_
     refine TL.bin hF rfl rfl rfl rfl ?_
     refine TL.nil ?_
     refine TQ.then_n ?_
     first | refine T.cond_d rfl (fun ht159 => ?_) (fun ht159 => ?_) | refine T.cond _ rfl (fun ht159 => ?_) (fun ht159 => ?_)
     ·refine T.skip ?_
      refine TQ.then_n ?_
      refine T.seq ?_
      refine T.block ?_
      refine T.seq ?_
      refine T.region ?_
      refine TL.fieldAddr hF rfl rfl ?_
      refine TL.load hF rfl (own_mem (b := b19) (cs := (nhC y).toArray) (e := 43) (fz := (0, 0)) (by simp) rfl) rfl ?_
      refine TL.move hF rfl rfl ?_
      have hkl : k < y.nd.deps.length := by have h : (k : Int) < (y.nd.deps.length : Int) := ht159; omega
      refine TL.indexAddr hF rfl rfl (hyd.tad dpC_len (by decide) hkl) (by omega) (by omega) rfl ?_
      refine TL.loadA hF (dpC y.nd.deps[k]) rfl rfl (hyd.ro.tabA dpC_len (i := k) hkl) rfl ?_
      refine TL.alloc hF rfl (fun b23 => ?_)
      refine TL.storeAs hF (dpC y.nd.deps[k]) (dpC y.nd.deps[k]) 0 (cs := [.bool false, .int .i64 0, .int .i64 0, .int .i64 0, .int .i64 0]) rfl rfl rfl rfl (dpC1 _) (Nat.le_refl 5) rfl ?_
      refine TL.nil ?_
      refine TQ.then_n ?_
      have hdm : y.nd.deps[k] ∈ y.nd.deps := List.getElem_mem hkl
      have hdcA : y.nd.deps[k].call = false → 0 ≤ y.nd.deps[k].cell ∧ y.nd.deps[k].cell < cells.length := fun hcl => dep_cell hsc.right (by omega) ta hyA hdm hcl
      have htk : y.nd.deps.take (k + 1) = y.nd.deps.take k ++ [y.nd.deps[k]] := List.take_succ_eq_append_getElem hkl
      rcases (show why = true ∨ (why = false ∧ y.nd.deps[k].call = true) ∨ (why = false ∧ y.nd.deps[k].call = false ∧ at0 (editS cells ps[0].2.1) y.nd.deps[k].cell.toNat ≠ at0 cells y.nd.deps[k].cell.toNat) ∨ (why = false ∧ y.nd.deps[k].call = false ∧ at0 (editS cells ps[0].2.1) y.nd.deps[k].cell.toNat = at0 cells y.nd.deps[k].cell.toNat) from by
       cases why <;> cases y.nd.deps[k].call <;> by_cases h : at0 (editS cells ps[0].2.1) y.nd.deps[k].cell.toNat = at0 cells y.nd.deps[k].cell.toNat <;> simp [h]) with hww | ⟨hww, hcl⟩ | ⟨hww, hcl, hne2⟩ | ⟨hww, hcl, hne2⟩
      ·refine T.draw ?_
       refine DR.stepV [_] rfl [(21, _, none)] rfl rfl ⟨⟨rfl, by kernel_rfl⟩, trivial⟩ (fun ext => TL.move hF rfl rfl TL.fin) ?_
       refine DR.stepV [_, _] rfl [(167, _, some 0)] rfl rfl ⟨⟨rfl, rfl, rfl⟩, trivial⟩ (fun ext => TL.move hF rfl rfl TL.fin) ?_
       refine DR.stepV [_, _, _] rfl [(23, _, none), (168, _, some 1)] rfl rfl ⟨⟨rfl, by kernel_rfl⟩, ⟨rfl, rfl, rfl⟩, trivial⟩ (fun ext => TL.off hF rfl rfl rfl hww rfl TL.fin) ?_
       refine DR.stepV [_, _, _, _] rfl [(169, _, some 2), (168, _, some 1)] rfl rfl ⟨⟨rfl, rfl, rfl⟩, ⟨rfl, rfl, rfl⟩, trivial⟩ (fun ext => TL.off hF rfl rfl rfl hww rfl TL.fin) ?_
       refine DR.stepV [_, _, _, _, _] rfl [(170, _, some 3), (168, _, some 1)] rfl rfl ⟨⟨rfl, rfl, rfl⟩, ⟨rfl, rfl, rfl⟩, trivial⟩ (fun ext => TL.off hF rfl rfl rfl hww rfl TL.fin) ?_
       refine DR.stepV [_, _, _, _, _, _] rfl [(171, _, some 4), (168, _, some 1)] rfl rfl ⟨⟨rfl, rfl, rfl⟩, ⟨rfl, rfl, rfl⟩, trivial⟩ (fun ext => TL.off hF rfl rfl rfl hww rfl TL.fin) ?_
       refine DR.stepV [_, _, _, _, _, _, _] rfl [(23, _, none), (172, _, some 5)] rfl rfl ⟨⟨rfl, by kernel_rfl⟩, ⟨rfl, rfl, rfl⟩, trivial⟩ (fun ext => TL.offU hF rfl rfl rfl rfl TL.fin) ?_
       refine DR.stepV [_, _, _, _, _, _, _, _] rfl [(173, _, some 6), (172, _, some 5)] rfl rfl ⟨⟨rfl, rfl, rfl⟩, ⟨rfl, rfl, rfl⟩, trivial⟩ (fun ext => TL.offU hF rfl rfl rfl rfl TL.fin) ?_
       refine DR.stepV [_, _, _, _, _, _, _, _, _] rfl [(6, _, none), (172, _, some 5)] rfl rfl ⟨⟨rfl, by kernel_rfl⟩, ⟨rfl, rfl, rfl⟩, trivial⟩ (fun ext => TL.offU hF rfl rfl rfl rfl TL.fin) ?_
       refine DR.stepV [_, _, _, _, _, _, _, _, _, _] rfl [(175, _, some 8), (172, _, some 5)] rfl rfl ⟨⟨rfl, rfl, rfl⟩, ⟨rfl, rfl, rfl⟩, trivial⟩ (fun ext => TL.offU hF rfl rfl rfl rfl TL.fin) ?_
       refine DR.stepV [_, _, _, _, _, _, _, _, _, _, _] rfl [(176, _, some 9), (172, _, some 5)] rfl rfl ⟨⟨rfl, rfl, rfl⟩, ⟨rfl, rfl, rfl⟩, trivial⟩ (fun ext => TL.offU hF rfl rfl rfl rfl TL.fin) ?_
       refine DR.stepV [_, _, _, _, _, _, _, _, _, _, _, _] rfl [(174, _, some 7), (177, _, some 10), (172, _, some 5)] rfl rfl ⟨⟨rfl, rfl, rfl⟩, ⟨rfl, rfl, rfl⟩, ⟨rfl, rfl, rfl⟩, trivial⟩ (fun ext => TL.offU hF rfl rfl rfl rfl TL.fin) ?_
       refine DR.stepV [_, _, _, _, _, _, _, _, _, _, _, _, _] rfl [(172, _, some 5), (178, _, some 11), (168, _, some 1)] rfl rfl ⟨⟨rfl, rfl, rfl⟩, ⟨rfl, rfl, rfl⟩, ⟨rfl, rfl, rfl⟩, trivial⟩ (fun ext => TL.off hF rfl rfl rfl hww rfl TL.fin) ?_
       refine DR.stepV [_, _, _, _, _, _, _, _, _, _, _, _, _, _] rfl [(179, _, some 12), (168, _, some 1)] rfl rfl ⟨⟨rfl, rfl, rfl⟩, ⟨rfl, rfl, rfl⟩, trivial⟩ (fun ext => TL.off hF rfl rfl rfl hww rfl TL.fin) ?_
       refine DR.stepV [_, _, _, _, _, _, _, _, _, _, _, _, _, _, _] rfl [(15, _, none), (180, _, some 13)] rfl rfl ⟨⟨rfl, by kernel_rfl⟩, ⟨rfl, rfl, rfl⟩, trivial⟩ (fun ext => TL.offU hF rfl rfl rfl rfl TL.fin) ?_
       refine DR.stepV [_, _, _, _, _, _, _, _, _, _, _, _, _, _, _, _] rfl [(23, _, none), (180, _, some 13)] rfl rfl ⟨⟨rfl, by kernel_rfl⟩, ⟨rfl, rfl, rfl⟩, trivial⟩ (fun ext => TL.offU hF rfl rfl rfl rfl TL.fin) ?_
       refine DR.stepV [_, _, _, _, _, _, _, _, _, _, _, _, _, _, _, _, _] rfl [(182, _, some 15), (180, _, some 13)] rfl rfl ⟨⟨rfl, rfl, rfl⟩, ⟨rfl, rfl, rfl⟩, trivial⟩ (fun ext => TL.offU hF rfl rfl rfl rfl TL.fin) ?_
       refine DR.stepV [_, _, _, _, _, _, _, _, _, _, _, _, _, _, _, _, _, _] rfl [(181, _, some 14), (183, _, some 16), (180, _, some 13)] rfl rfl ⟨⟨rfl, rfl, rfl⟩, ⟨rfl, rfl, rfl⟩, ⟨rfl, rfl, rfl⟩, trivial⟩ (fun ext => TL.offU hF rfl rfl rfl rfl TL.fin) ?_
       refine DR.stepV [_, _, _, _, _, _, _, _, _, _, _, _, _, _, _, _, _, _, _] rfl [(184, _, some 17), (180, _, some 13)] rfl rfl ⟨⟨rfl, rfl, rfl⟩, ⟨rfl, rfl, rfl⟩, trivial⟩ (fun ext => TL.offU hF rfl rfl rfl rfl TL.fin) ?_
       refine DR.stepV [_, _, _, _, _, _, _, _, _, _, _, _, _, _, _, _, _, _, _, _] rfl [(6, _, none), (180, _, some 13)] rfl rfl ⟨⟨rfl, by kernel_rfl⟩, ⟨rfl, rfl, rfl⟩, trivial⟩ (fun ext => TL.offU hF rfl rfl rfl rfl TL.fin) ?_
       refine DR.stepV [_, _, _, _, _, _, _, _, _, _, _, _, _, _, _, _, _, _, _, _, _] rfl [(23, _, none), (180, _, some 13)] rfl rfl ⟨⟨rfl, by kernel_rfl⟩, ⟨rfl, rfl, rfl⟩, trivial⟩ (fun ext => TL.offU hF rfl rfl rfl rfl TL.fin) ?_
       refine DR.stepV [_, _, _, _, _, _, _, _, _, _, _, _, _, _, _, _, _, _, _, _, _, _] rfl [(187, _, some 20), (180, _, some 13)] rfl rfl ⟨⟨rfl, rfl, rfl⟩, ⟨rfl, rfl, rfl⟩, trivial⟩ (fun ext => TL.offU hF rfl rfl rfl rfl TL.fin) ?_
       refine DR.stepV [_, _, _, _, _, _, _, _, _, _, _, _, _, _, _, _, _, _, _, _, _, _, _] rfl [(186, _, some 19), (188, _, some 21), (180, _, some 13)] rfl rfl ⟨⟨rfl, rfl, rfl⟩, ⟨rfl, rfl, rfl⟩, ⟨rfl, rfl, rfl⟩, trivial⟩ (fun ext => TL.offU hF rfl rfl rfl rfl TL.fin) ?_
       refine DR.stepV [_, _, _, _, _, _, _, _, _, _, _, _, _, _, _, _, _, _, _, _, _, _, _, _] rfl [(189, _, some 22), (180, _, some 13)] rfl rfl ⟨⟨rfl, rfl, rfl⟩, ⟨rfl, rfl, rfl⟩, trivial⟩ (fun ext => TL.offU hF rfl rfl rfl rfl TL.fin) ?_
       refine DR.stepV [_, _, _, _, _, _, _, _, _, _, _, _, _, _, _, _, _, _, _, _, _, _, _, _, _] rfl [(185, _, some 18), (190, _, some 23), (180, _, some 13)] rfl rfl ⟨⟨rfl, rfl, rfl⟩, ⟨rfl, rfl, rfl⟩, ⟨rfl, rfl, rfl⟩, trivial⟩ (fun ext => TL.offU hF rfl rfl rfl rfl TL.fin) ?_
       refine DR.stepV [_, _, _, _, _, _, _, _, _, _, _, _, _, _, _, _, _, _, _, _, _, _, _, _, _, _] rfl [(180, _, some 13), (191, _, some 24), (168, _, some 1)] rfl rfl ⟨⟨rfl, rfl, rfl⟩, ⟨rfl, rfl, rfl⟩, ⟨rfl, rfl, rfl⟩, trivial⟩ (fun ext => TL.off hF rfl rfl rfl hww rfl TL.fin) ?_
       refine DR.stepV [_, _, _, _, _, _, _, _, _, _, _, _, _, _, _, _, _, _, _, _, _, _, _, _, _, _, _] rfl [(168, _, some 1), (192, _, some 25)] rfl rfl ⟨⟨rfl, rfl, rfl⟩, ⟨rfl, rfl, rfl⟩, trivial⟩ (fun ext => TL.pickT hF rfl hww rfl rfl TL.fin) ?_
       refine DR.stepV [_, _, _, _, _, _, _, _, _, _, _, _, _, _, _, _, _, _, _, _, _, _, _, _, _, _, _, _] rfl [(193, _, some 26)] rfl rfl ⟨⟨rfl, rfl, rfl⟩, trivial⟩ (fun ext => TL.move hF rfl rfl TL.fin) ?_
       refine DR.stepV [_, _, _, _, _, _, _, _, _, _, _, _, _, _, _, _, _, _, _, _, _, _, _, _, _, _, _, _, _] rfl [(23, _, none), (194, _, some 27)] rfl rfl ⟨⟨rfl, by kernel_rfl⟩, ⟨rfl, rfl, rfl⟩, trivial⟩ (fun ext => TL.off hF rfl rfl rfl (by first | rfl | exact hww) rfl TL.fin) ?_
       refine DR.stepV [_, _, _, _, _, _, _, _, _, _, _, _, _, _, _, _, _, _, _, _, _, _, _, _, _, _, _, _, _, _] rfl [(195, _, some 28), (194, _, some 27)] rfl rfl ⟨⟨rfl, rfl, rfl⟩, ⟨rfl, rfl, rfl⟩, trivial⟩ (fun ext => TL.off hF rfl rfl rfl (by first | rfl | exact hww) rfl TL.fin) ?_
       refine DR.stepV [_, _, _, _, _, _, _, _, _, _, _, _, _, _, _, _, _, _, _, _, _, _, _, _, _, _, _, _, _, _, _] rfl [(196, _, some 29), (194, _, some 27)] rfl rfl ⟨⟨rfl, rfl, rfl⟩, ⟨rfl, rfl, rfl⟩, trivial⟩ (fun ext => TL.off hF rfl rfl rfl (by first | rfl | exact hww) rfl TL.fin) ?_
       refine DR.stepV [_, _, _, _, _, _, _, _, _, _, _, _, _, _, _, _, _, _, _, _, _, _, _, _, _, _, _, _, _, _, _, _] rfl [(9, _, none), (197, _, some 30)] rfl rfl ⟨⟨rfl, by kernel_rfl⟩, ⟨rfl, rfl, rfl⟩, trivial⟩ (fun ext => TL.offU hF rfl rfl rfl rfl TL.fin) ?_
       refine DR.stepV [_, _, _, _, _, _, _, _, _, _, _, _, _, _, _, _, _, _, _, _, _, _, _, _, _, _, _, _, _, _, _, _, _] rfl [(198, _, some 31), (197, _, some 30)] rfl rfl ⟨⟨rfl, rfl, rfl⟩, ⟨rfl, rfl, rfl⟩, trivial⟩ (fun ext => TL.offU hF rfl rfl rfl rfl TL.fin) ?_
       refine DR.stepV [_, _, _, _, _, _, _, _, _, _, _, _, _, _, _, _, _, _, _, _, _, _, _, _, _, _, _, _, _, _, _, _, _, _] rfl [(199, _, some 32), (197, _, some 30)] rfl rfl ⟨⟨rfl, rfl, rfl⟩, ⟨rfl, rfl, rfl⟩, trivial⟩ (fun ext => TL.offU hF rfl rfl rfl rfl TL.fin) ?_
       refine DR.stepV [_, _, _, _, _, _, _, _, _, _, _, _, _, _, _, _, _, _, _, _, _, _, _, _, _, _, _, _, _, _, _, _, _, _, _] rfl [(200, _, some 33), (197, _, some 30)] rfl rfl ⟨⟨rfl, rfl, rfl⟩, ⟨rfl, rfl, rfl⟩, trivial⟩ (fun ext => TL.offU hF rfl rfl rfl rfl TL.fin) ?_
       refine DR.stepV [_, _, _, _, _, _, _, _, _, _, _, _, _, _, _, _, _, _, _, _, _, _, _, _, _, _, _, _, _, _, _, _, _, _, _, _] rfl [(23, _, none), (197, _, some 30)] rfl rfl ⟨⟨rfl, by kernel_rfl⟩, ⟨rfl, rfl, rfl⟩, trivial⟩ (fun ext => TL.offU hF rfl rfl rfl rfl TL.fin) ?_
       refine DR.stepV [_, _, _, _, _, _, _, _, _, _, _, _, _, _, _, _, _, _, _, _, _, _, _, _, _, _, _, _, _, _, _, _, _, _, _, _, _] rfl [(202, _, some 35), (197, _, some 30)] rfl rfl ⟨⟨rfl, rfl, rfl⟩, ⟨rfl, rfl, rfl⟩, trivial⟩ (fun ext => TL.offU hF rfl rfl rfl rfl TL.fin) ?_
       refine DR.done [(203, _), (202, _), (201, _), (200, _), (199, _), (198, _), (197, _), (196, _), (195, _), (194, _), (193, _), (192, _), (191, _), (190, _), (189, _), (188, _), (187, _), (186, _), (185, _), (184, _), (183, _), (182, _), (181, _), (180, _), (179, _), (178, _), (177, _), (176, _), (175, _), (174, _), (173, _), (172, _), (171, _), (170, _), (169, _), (168, _), (167, _)] [_, _, _, _] mixed (by kernel_rfl) (by kernel_rfl) (by kernel_rfl) rfl rfl ?_
       refine TL.offU hF rfl rfl rfl rfl ?_
       refine TL.off hF rfl rfl rfl (by first | rfl | exact hww) rfl ?_
       refine TL.pickT hF rfl (by first | rfl | exact hww) rfl rfl ?_
       refine TL.assign hF rfl rfl ?_
       refine TL.nil ?_
       refine TQ.block_n ?_
       refine TQ.then_n ?_
       refine T.region ?_
       refine TL.move hF rfl rfl ?_
       refine TL.add hF rfl rfl (by dsimp only; omega) (by dsimp only; omega) rfl ?_
       refine TL.assign hF rfl rfl ?_
       refine TL.nil ?_
       refine TQ.pop ?_
       refine TQ.round ⟨k + 1, true⟩ ⟨by dsimp only; omega, fun h d hd => ?_⟩ (by dsimp only; omega) ⟨rfl, rfl, rfl, rfl, rfl, rfl, rfl, rfl, rfl, rfl, trivial⟩ rfl
       dsimp only at h
       cases h
      ·refine T.draw ?_
       refine DR.stepV [_] rfl [(21, _, none)] rfl rfl ⟨⟨rfl, by kernel_rfl⟩, trivial⟩ (fun ext => TL.move hF rfl rfl TL.fin) ?_
       refine DR.stepV [_, _] rfl [(167, _, some 0)] rfl rfl ⟨⟨rfl, rfl, rfl⟩, trivial⟩ (fun ext => TL.move hF rfl rfl TL.fin) ?_
       refine DR.stepV [_, _, _] rfl [(23, _, none), (168, _, some 1)] rfl rfl ⟨⟨rfl, by kernel_rfl⟩, ⟨rfl, rfl, rfl⟩, trivial⟩ (fun ext => TL.on rfl rfl rfl hww <| TL.fieldAddr hF rfl rfl TL.fin) ?_
       refine DR.stepV [_, _, _, _] rfl [(169, _, some 2), (168, _, some 1)] rfl rfl ⟨⟨rfl, rfl, rfl⟩, ⟨rfl, rfl, rfl⟩, trivial⟩ (fun ext => TL.on rfl rfl rfl hww <| TL.load hF rfl (own_mem (b := b23) (cs := (dpC y.nd.deps[k]).toArray) (e := 56) (fz := (0, 0)) (by simp) rfl) rfl TL.fin) ?_
       refine DR.stepV [_, _, _, _, _] rfl [(170, _, some 3), (168, _, some 1)] rfl rfl ⟨⟨rfl, rfl, rfl⟩, ⟨rfl, rfl, rfl⟩, trivial⟩ (fun ext => TL.on rfl rfl rfl hww <| TL.not hF rfl rfl TL.fin) ?_
       refine DR.stepV [_, _, _, _, _, _] rfl [(171, _, some 4), (168, _, some 1)] rfl rfl ⟨⟨rfl, rfl, rfl⟩, ⟨rfl, rfl, rfl⟩, trivial⟩ (fun ext => TL.on rfl rfl rfl hww <| TL.move hF rfl rfl TL.fin) ?_
       refine DR.stepV [_, _, _, _, _, _, _] rfl [(23, _, none), (172, _, some 5)] rfl rfl ⟨⟨rfl, by kernel_rfl⟩, ⟨rfl, rfl, rfl⟩, trivial⟩ (fun ext => TL.off hF rfl rfl rfl (by simp [hcl]) rfl TL.fin) ?_
       refine DR.stepV [_, _, _, _, _, _, _, _] rfl [(173, _, some 6), (172, _, some 5)] rfl rfl ⟨⟨rfl, rfl, rfl⟩, ⟨rfl, rfl, rfl⟩, trivial⟩ (fun ext => TL.off hF rfl rfl rfl (by simp [hcl]) rfl TL.fin) ?_
       refine DR.stepV [_, _, _, _, _, _, _, _, _] rfl [(6, _, none), (172, _, some 5)] rfl rfl ⟨⟨rfl, by kernel_rfl⟩, ⟨rfl, rfl, rfl⟩, trivial⟩ (fun ext => TL.off hF rfl rfl rfl (by simp [hcl]) rfl TL.fin) ?_
       refine DR.stepV [_, _, _, _, _, _, _, _, _, _] rfl [(175, _, some 8), (172, _, some 5)] rfl rfl ⟨⟨rfl, rfl, rfl⟩, ⟨rfl, rfl, rfl⟩, trivial⟩ (fun ext => TL.off hF rfl rfl rfl (by simp [hcl]) rfl TL.fin) ?_
       refine DR.stepV [_, _, _, _, _, _, _, _, _, _, _] rfl [(176, _, some 9), (172, _, some 5)] rfl rfl ⟨⟨rfl, rfl, rfl⟩, ⟨rfl, rfl, rfl⟩, trivial⟩ (fun ext => TL.off hF rfl rfl rfl (by simp [hcl]) rfl TL.fin) ?_
       refine DR.stepV [_, _, _, _, _, _, _, _, _, _, _, _] rfl [(174, _, some 7), (177, _, some 10), (172, _, some 5)] rfl rfl ⟨⟨rfl, rfl, rfl⟩, ⟨rfl, rfl, rfl⟩, ⟨rfl, rfl, rfl⟩, trivial⟩ (fun ext => TL.off hF rfl rfl rfl (by simp [hcl]) rfl TL.fin) ?_
       refine DR.stepV [_, _, _, _, _, _, _, _, _, _, _, _, _] rfl [(172, _, some 5), (178, _, some 11), (168, _, some 1)] rfl rfl ⟨⟨rfl, rfl, rfl⟩, ⟨rfl, rfl, rfl⟩, ⟨rfl, rfl, rfl⟩, trivial⟩ (fun ext => TL.on rfl rfl rfl hww <| TL.pickF hF rfl (by simp [hcl]) rfl rfl TL.fin) ?_
       refine DR.stepV [_, _, _, _, _, _, _, _, _, _, _, _, _, _] rfl [(179, _, some 12), (168, _, some 1)] rfl rfl ⟨⟨rfl, rfl, rfl⟩, ⟨rfl, rfl, rfl⟩, trivial⟩ (fun ext => TL.on rfl rfl rfl hww <| TL.move hF rfl rfl TL.fin) ?_
       refine DR.stepV [_, _, _, _, _, _, _, _, _, _, _, _, _, _, _] rfl [(15, _, none), (180, _, some 13)] rfl rfl ⟨⟨rfl, by kernel_rfl⟩, ⟨rfl, rfl, rfl⟩, trivial⟩ (fun ext => TL.off hF rfl rfl rfl rfl rfl TL.fin) ?_
       refine DR.stepV [_, _, _, _, _, _, _, _, _, _, _, _, _, _, _, _] rfl [(23, _, none), (180, _, some 13)] rfl rfl ⟨⟨rfl, by kernel_rfl⟩, ⟨rfl, rfl, rfl⟩, trivial⟩ (fun ext => TL.off hF rfl rfl rfl rfl rfl TL.fin) ?_
       refine DR.stepV [_, _, _, _, _, _, _, _, _, _, _, _, _, _, _, _, _] rfl [(182, _, some 15), (180, _, some 13)] rfl rfl ⟨⟨rfl, rfl, rfl⟩, ⟨rfl, rfl, rfl⟩, trivial⟩ (fun ext => TL.off hF rfl rfl rfl rfl rfl TL.fin) ?_
       refine DR.stepV [_, _, _, _, _, _, _, _, _, _, _, _, _, _, _, _, _, _] rfl [(181, _, some 14), (183, _, some 16), (180, _, some 13)] rfl rfl ⟨⟨rfl, rfl, rfl⟩, ⟨rfl, rfl, rfl⟩, ⟨rfl, rfl, rfl⟩, trivial⟩ (fun ext => TL.off hF rfl rfl rfl rfl rfl TL.fin) ?_
       refine DR.stepV [_, _, _, _, _, _, _, _, _, _, _, _, _, _, _, _, _, _, _] rfl [(184, _, some 17), (180, _, some 13)] rfl rfl ⟨⟨rfl, rfl, rfl⟩, ⟨rfl, rfl, rfl⟩, trivial⟩ (fun ext => TL.off hF rfl rfl rfl rfl rfl TL.fin) ?_
       refine DR.stepV [_, _, _, _, _, _, _, _, _, _, _, _, _, _, _, _, _, _, _, _] rfl [(6, _, none), (180, _, some 13)] rfl rfl ⟨⟨rfl, by kernel_rfl⟩, ⟨rfl, rfl, rfl⟩, trivial⟩ (fun ext => TL.off hF rfl rfl rfl rfl rfl TL.fin) ?_
       refine DR.stepV [_, _, _, _, _, _, _, _, _, _, _, _, _, _, _, _, _, _, _, _, _] rfl [(23, _, none), (180, _, some 13)] rfl rfl ⟨⟨rfl, by kernel_rfl⟩, ⟨rfl, rfl, rfl⟩, trivial⟩ (fun ext => TL.off hF rfl rfl rfl rfl rfl TL.fin) ?_
       refine DR.stepV [_, _, _, _, _, _, _, _, _, _, _, _, _, _, _, _, _, _, _, _, _, _] rfl [(187, _, some 20), (180, _, some 13)] rfl rfl ⟨⟨rfl, rfl, rfl⟩, ⟨rfl, rfl, rfl⟩, trivial⟩ (fun ext => TL.off hF rfl rfl rfl rfl rfl TL.fin) ?_
       refine DR.stepV [_, _, _, _, _, _, _, _, _, _, _, _, _, _, _, _, _, _, _, _, _, _, _] rfl [(186, _, some 19), (188, _, some 21), (180, _, some 13)] rfl rfl ⟨⟨rfl, rfl, rfl⟩, ⟨rfl, rfl, rfl⟩, ⟨rfl, rfl, rfl⟩, trivial⟩ (fun ext => TL.off hF rfl rfl rfl rfl rfl TL.fin) ?_
       refine DR.stepV [_, _, _, _, _, _, _, _, _, _, _, _, _, _, _, _, _, _, _, _, _, _, _, _] rfl [(189, _, some 22), (180, _, some 13)] rfl rfl ⟨⟨rfl, rfl, rfl⟩, ⟨rfl, rfl, rfl⟩, trivial⟩ (fun ext => TL.off hF rfl rfl rfl rfl rfl TL.fin) ?_
       refine DR.stepV [_, _, _, _, _, _, _, _, _, _, _, _, _, _, _, _, _, _, _, _, _, _, _, _, _] rfl [(185, _, some 18), (190, _, some 23), (180, _, some 13)] rfl rfl ⟨⟨rfl, rfl, rfl⟩, ⟨rfl, rfl, rfl⟩, ⟨rfl, rfl, rfl⟩, trivial⟩ (fun ext => TL.off hF rfl rfl rfl rfl rfl TL.fin) ?_
       refine DR.stepV [_, _, _, _, _, _, _, _, _, _, _, _, _, _, _, _, _, _, _, _, _, _, _, _, _, _] rfl [(180, _, some 13), (191, _, some 24), (168, _, some 1)] rfl rfl ⟨⟨rfl, rfl, rfl⟩, ⟨rfl, rfl, rfl⟩, ⟨rfl, rfl, rfl⟩, trivial⟩ (fun ext => TL.on rfl rfl rfl hww <| TL.pickF hF rfl rfl rfl rfl TL.fin) ?_
       refine DR.stepV [_, _, _, _, _, _, _, _, _, _, _, _, _, _, _, _, _, _, _, _, _, _, _, _, _, _, _] rfl [(168, _, some 1), (192, _, some 25)] rfl rfl ⟨⟨rfl, rfl, rfl⟩, ⟨rfl, rfl, rfl⟩, trivial⟩ (fun ext => TL.pickF hF rfl hww rfl rfl TL.fin) ?_
       refine DR.stepV [_, _, _, _, _, _, _, _, _, _, _, _, _, _, _, _, _, _, _, _, _, _, _, _, _, _, _, _] rfl [(193, _, some 26)] rfl rfl ⟨⟨rfl, rfl, rfl⟩, trivial⟩ (fun ext => TL.move hF rfl rfl TL.fin) ?_
       refine DR.stepV [_, _, _, _, _, _, _, _, _, _, _, _, _, _, _, _, _, _, _, _, _, _, _, _, _, _, _, _, _] rfl [(23, _, none), (194, _, some 27)] rfl rfl ⟨⟨rfl, by kernel_rfl⟩, ⟨rfl, rfl, rfl⟩, trivial⟩ (fun ext => TL.on rfl rfl rfl rfl <| TL.fieldAddr hF rfl rfl TL.fin) ?_
       refine DR.stepV [_, _, _, _, _, _, _, _, _, _, _, _, _, _, _, _, _, _, _, _, _, _, _, _, _, _, _, _, _, _] rfl [(195, _, some 28), (194, _, some 27)] rfl rfl ⟨⟨rfl, rfl, rfl⟩, ⟨rfl, rfl, rfl⟩, trivial⟩ (fun ext => TL.on rfl rfl rfl rfl <| TL.load hF rfl (own_mem (b := b23) (cs := (dpC y.nd.deps[k]).toArray) (e := 56) (fz := (0, 0)) (by simp) rfl) rfl TL.fin) ?_
       refine DR.stepV [_, _, _, _, _, _, _, _, _, _, _, _, _, _, _, _, _, _, _, _, _, _, _, _, _, _, _, _, _, _, _] rfl [(196, _, some 29), (194, _, some 27)] rfl rfl ⟨⟨rfl, rfl, rfl⟩, ⟨rfl, rfl, rfl⟩, trivial⟩ (fun ext => TL.on rfl rfl rfl rfl <| TL.move hF rfl rfl TL.fin) ?_
       refine DR.stepV [_, _, _, _, _, _, _, _, _, _, _, _, _, _, _, _, _, _, _, _, _, _, _, _, _, _, _, _, _, _, _, _] rfl [(9, _, none), (197, _, some 30)] rfl rfl ⟨⟨rfl, by kernel_rfl⟩, ⟨rfl, rfl, rfl⟩, trivial⟩ (fun ext => TL.on rfl rfl rfl hcl <| TL.move hF rfl rfl TL.fin) ?_
       refine DR.stepV [_, _, _, _, _, _, _, _, _, _, _, _, _, _, _, _, _, _, _, _, _, _, _, _, _, _, _, _, _, _, _, _, _] rfl [(198, _, some 31), (197, _, some 30)] rfl rfl ⟨⟨rfl, rfl, rfl⟩, ⟨rfl, rfl, rfl⟩, trivial⟩ (fun ext => TL.on rfl rfl rfl hcl <| TL.indexAddr hF rfl rfl (hla.ad (i := 0) (by simp)) (by decide) (by simp) rfl TL.fin) ?_
       refine DR.stepV [_, _, _, _, _, _, _, _, _, _, _, _, _, _, _, _, _, _, _, _, _, _, _, _, _, _, _, _, _, _, _, _, _, _] rfl [(199, _, some 32), (197, _, some 30)] rfl rfl ⟨⟨rfl, rfl, rfl⟩, ⟨rfl, rfl, rfl⟩, trivial⟩ (fun ext => TL.on rfl rfl rfl hcl <| TL.fieldAddr hF rfl rfl TL.fin) ?_
       refine DR.stepV [_, _, _, _, _, _, _, _, _, _, _, _, _, _, _, _, _, _, _, _, _, _, _, _, _, _, _, _, _, _, _, _, _, _, _] rfl [(200, _, some 33), (197, _, some 30)] rfl rfl ⟨⟨rfl, rfl, rfl⟩, ⟨rfl, rfl, rfl⟩, trivial⟩ (fun ext => TL.on rfl rfl rfl hcl <| TL.load hF rfl ((hla.atA (i := 0) (by simp) 1 _ rfl).up (by simp)) rfl TL.fin) ?_
       refine DR.stepV [_, _, _, _, _, _, _, _, _, _, _, _, _, _, _, _, _, _, _, _, _, _, _, _, _, _, _, _, _, _, _, _, _, _, _, _] rfl [(23, _, none), (197, _, some 30)] rfl rfl ⟨⟨rfl, by kernel_rfl⟩, ⟨rfl, rfl, rfl⟩, trivial⟩ (fun ext => TL.on rfl rfl rfl hcl <| TL.fieldAddr hF rfl rfl TL.fin) ?_
       refine DR.stepV [_, _, _, _, _, _, _, _, _, _, _, _, _, _, _, _, _, _, _, _, _, _, _, _, _, _, _, _, _, _, _, _, _, _, _, _, _] rfl [(202, _, some 35), (197, _, some 30)] rfl rfl ⟨⟨rfl, rfl, rfl⟩, ⟨rfl, rfl, rfl⟩, trivial⟩ (fun ext => TL.on rfl rfl rfl hcl <| TL.loadA hF (kC y.nd.deps[k].key) rfl rfl (fun j v hj => own_mem (b := b23) (cs := (dpC y.nd.deps[k]).toArray) (e := 56) (fz := (0, 0)) (by simp) (by rw [← hj]; rcases j with _ | _ | j <;> simp [kC, dpC] at hj ⊢)) rfl TL.fin) ?_
       refine DR.done [(203, _), (202, _), (201, _), (200, _), (199, _), (198, _), (197, _), (196, _), (195, _), (194, _), (193, _), (192, _), (191, _), (190, _), (189, _), (188, _), (187, _), (186, _), (185, _), (184, _), (183, _), (182, _), (181, _), (180, _), (179, _), (178, _), (177, _), (176, _), (175, _), (174, _), (173, _), (172, _), (171, _), (170, _), (169, _), (168, _), (167, _)] [_, _, _, _] mixed (by kernel_rfl) (by kernel_rfl) (by kernel_rfl) rfl rfl ?_
       refine TL.on rfl rfl rfl hcl ?_
       refine TL.callV hF (has_fn (k := y.nd.deps[k].key) hm1.r1 (by omega)) rfl rfl ?_
       refine TL.on rfl rfl rfl rfl ?_
       refine TL.pickT hF rfl hcl rfl rfl ?_
       refine TL.pickF hF rfl rfl rfl rfl ?_
       refine TL.assign hF rfl rfl ?_
       refine TL.nil ?_
       refine TQ.block_n ?_
       refine TQ.then_n ?_
       refine T.region ?_
       refine TL.move hF rfl rfl ?_
       refine TL.add hF rfl rfl (by dsimp only; omega) (by dsimp only; omega) rfl ?_
       refine TL.assign hF rfl rfl ?_
       refine TL.nil ?_
       refine TQ.pop ?_
       refine TQ.round ⟨k + 1, decide (y.nd.deps[k].key ∈ x.r.again)⟩ ⟨by dsimp only; omega, fun h d hd => ?_⟩ (by dsimp only; omega) ⟨rfl, rfl, rfl, rfl, rfl, rfl, rfl, rfl, rfl, rfl, trivial⟩ rfl
       dsimp only at h
       rw [htk] at hd
       rcases List.mem_append.1 hd with hd | hd
       ·exact hwn hww d hd
       ·rw [List.mem_singleton.1 hd]
        rintro (⟨h1, h2⟩ | ⟨h1, h2⟩)
        ·rw [hcl] at h1; cases h1
        ·exact of_decide_eq_false h h2
      ·refine T.draw ?_
       refine DR.stepV [_] rfl [(21, _, none)] rfl rfl ⟨⟨rfl, by kernel_rfl⟩, trivial⟩ (fun ext => TL.move hF rfl rfl TL.fin) ?_
       refine DR.stepV [_, _] rfl [(167, _, some 0)] rfl rfl ⟨⟨rfl, rfl, rfl⟩, trivial⟩ (fun ext => TL.move hF rfl rfl TL.fin) ?_
       refine DR.stepV [_, _, _] rfl [(23, _, none), (168, _, some 1)] rfl rfl ⟨⟨rfl, by kernel_rfl⟩, ⟨rfl, rfl, rfl⟩, trivial⟩ (fun ext => TL.on rfl rfl rfl hww <| TL.fieldAddr hF rfl rfl TL.fin) ?_
       refine DR.stepV [_, _, _, _] rfl [(169, _, some 2), (168, _, some 1)] rfl rfl ⟨⟨rfl, rfl, rfl⟩, ⟨rfl, rfl, rfl⟩, trivial⟩ (fun ext => TL.on rfl rfl rfl hww <| TL.load hF rfl (own_mem (b := b23) (cs := (dpC y.nd.deps[k]).toArray) (e := 56) (fz := (0, 0)) (by simp) rfl) rfl TL.fin) ?_
       refine DR.stepV [_, _, _, _, _] rfl [(170, _, some 3), (168, _, some 1)] rfl rfl ⟨⟨rfl, rfl, rfl⟩, ⟨rfl, rfl, rfl⟩, trivial⟩ (fun ext => TL.on rfl rfl rfl hww <| TL.not hF rfl rfl TL.fin) ?_
       refine DR.stepV [_, _, _, _, _, _] rfl [(171, _, some 4), (168, _, some 1)] rfl rfl ⟨⟨rfl, rfl, rfl⟩, ⟨rfl, rfl, rfl⟩, trivial⟩ (fun ext => TL.on rfl rfl rfl hww <| TL.move hF rfl rfl TL.fin) ?_
       refine DR.stepV [_, _, _, _, _, _, _] rfl [(23, _, none), (172, _, some 5)] rfl rfl ⟨⟨rfl, by kernel_rfl⟩, ⟨rfl, rfl, rfl⟩, trivial⟩ (fun ext => TL.on rfl rfl rfl (by simp [hcl]) <| TL.fieldAddr hF rfl rfl TL.fin) ?_
       refine DR.stepV [_, _, _, _, _, _, _, _] rfl [(173, _, some 6), (172, _, some 5)] rfl rfl ⟨⟨rfl, rfl, rfl⟩, ⟨rfl, rfl, rfl⟩, trivial⟩ (fun ext => TL.on rfl rfl rfl (by simp [hcl]) <| TL.load hF rfl (own_mem (b := b23) (cs := (dpC y.nd.deps[k]).toArray) (e := 56) (fz := (0, 0)) (by simp) rfl) rfl TL.fin) ?_
       refine DR.stepV [_, _, _, _, _, _, _, _, _] rfl [(6, _, none), (172, _, some 5)] rfl rfl ⟨⟨rfl, by kernel_rfl⟩, ⟨rfl, rfl, rfl⟩, trivial⟩ (fun ext => TL.on rfl rfl rfl (by simp [hcl]) <| TL.move hF rfl rfl TL.fin) ?_
       refine DR.stepV [_, _, _, _, _, _, _, _, _, _] rfl [(175, _, some 8), (172, _, some 5)] rfl rfl ⟨⟨rfl, rfl, rfl⟩, ⟨rfl, rfl, rfl⟩, trivial⟩ (fun ext => TL.on rfl rfl rfl (by simp [hcl]) <| TL.len hF rfl rfl TL.fin) ?_
       refine DR.stepV [_, _, _, _, _, _, _, _, _, _, _] rfl [(176, _, some 9), (172, _, some 5)] rfl rfl ⟨⟨rfl, rfl, rfl⟩, ⟨rfl, rfl, rfl⟩, trivial⟩ (fun ext => TL.on rfl rfl rfl (by simp [hcl]) <| TL.sub hF rfl rfl (by omega) (by omega) rfl TL.fin) ?_
       refine DR.stepV [_, _, _, _, _, _, _, _, _, _, _, _] rfl [(174, _, some 7), (177, _, some 10), (172, _, some 5)] rfl rfl ⟨⟨rfl, rfl, rfl⟩, ⟨rfl, rfl, rfl⟩, ⟨rfl, rfl, rfl⟩, trivial⟩ (fun ext => TL.on rfl rfl rfl (by simp [hcl]) <| TL.callV hF (Lies_fn y.nd.deps[k].cell 0 ((cells.length : Int) - 1)) rfl rfl TL.fin) ?_
       refine DR.stepV [_, _, _, _, _, _, _, _, _, _, _, _, _] rfl [(172, _, some 5), (178, _, some 11), (168, _, some 1)] rfl rfl ⟨⟨rfl, rfl, rfl⟩, ⟨rfl, rfl, rfl⟩, ⟨rfl, rfl, rfl⟩, trivial⟩ (fun ext => TL.on rfl rfl rfl hww <| TL.pickT hF rfl (by simp [hcl]) rfl rfl TL.fin) ?_
       refine DR.stepV [_, _, _, _, _, _, _, _, _, _, _, _, _, _] rfl [(179, _, some 12), (168, _, some 1)] rfl rfl ⟨⟨rfl, rfl, rfl⟩, ⟨rfl, rfl, rfl⟩, trivial⟩ (fun ext => TL.on rfl rfl rfl hww <| TL.move hF rfl rfl TL.fin) ?_
       refine DR.stepV [_, _, _, _, _, _, _, _, _, _, _, _, _, _, _] rfl [(15, _, none), (180, _, some 13)] rfl rfl ⟨⟨rfl, by kernel_rfl⟩, ⟨rfl, rfl, rfl⟩, trivial⟩ (fun ext => TL.on rfl rfl rfl (by have := hdcA hcl; simp; omega) <| TL.move hF rfl rfl TL.fin) ?_
       refine DR.stepV [_, _, _, _, _, _, _, _, _, _, _, _, _, _, _, _] rfl [(23, _, none), (180, _, some 13)] rfl rfl ⟨⟨rfl, by kernel_rfl⟩, ⟨rfl, rfl, rfl⟩, trivial⟩ (fun ext => TL.on rfl rfl rfl (by have := hdcA hcl; simp; omega) <| TL.fieldAddr hF rfl rfl TL.fin) ?_
       refine DR.stepV [_, _, _, _, _, _, _, _, _, _, _, _, _, _, _, _, _] rfl [(182, _, some 15), (180, _, some 13)] rfl rfl ⟨⟨rfl, rfl, rfl⟩, ⟨rfl, rfl, rfl⟩, trivial⟩ (fun ext => TL.on rfl rfl rfl (by have := hdcA hcl; simp; omega) <| TL.load hF rfl (own_mem (b := b23) (cs := (dpC y.nd.deps[k]).toArray) (e := 56) (fz := (0, 0)) (by simp) rfl) rfl TL.fin) ?_
       refine DR.stepV [_, _, _, _, _, _, _, _, _, _, _, _, _, _, _, _, _, _] rfl [(181, _, some 14), (183, _, some 16), (180, _, some 13)] rfl rfl ⟨⟨rfl, rfl, rfl⟩, ⟨rfl, rfl, rfl⟩, ⟨rfl, rfl, rfl⟩, trivial⟩ (fun ext => TL.on rfl rfl rfl (by have := hdcA hcl; simp; omega) <| TL.indexAddr hF rfl rfl (hnx.adi (i := y.nd.deps[k].cell.toNat) (by have := hdcA hcl; simp; omega)) (by have := hdcA hcl; omega) (by have := hdcA hcl; omega) rfl TL.fin) ?_
       refine DR.stepV [_, _, _, _, _, _, _, _, _, _, _, _, _, _, _, _, _, _, _] rfl [(184, _, some 17), (180, _, some 13)] rfl rfl ⟨⟨rfl, rfl, rfl⟩, ⟨rfl, rfl, rfl⟩, trivial⟩ (fun ext => TL.on rfl rfl rfl (by have := hdcA hcl; simp; omega) <| TL.load hF rfl (hnx.ro.int (i := y.nd.deps[k].cell.toNat) (by have := hdcA hcl; omega)) rfl TL.fin) ?_
       refine DR.stepV [_, _, _, _, _, _, _, _, _, _, _, _, _, _, _, _, _, _, _, _] rfl [(6, _, none), (180, _, some 13)] rfl rfl ⟨⟨rfl, by kernel_rfl⟩, ⟨rfl, rfl, rfl⟩, trivial⟩ (fun ext => TL.on rfl rfl rfl (by have := hdcA hcl; simp; omega) <| TL.move hF rfl rfl TL.fin) ?_
       refine DR.stepV [_, _, _, _, _, _, _, _, _, _, _, _, _, _, _, _, _, _, _, _, _] rfl [(23, _, none), (180, _, some 13)] rfl rfl ⟨⟨rfl, by kernel_rfl⟩, ⟨rfl, rfl, rfl⟩, trivial⟩ (fun ext => TL.on rfl rfl rfl (by have := hdcA hcl; simp; omega) <| TL.fieldAddr hF rfl rfl TL.fin) ?_
       refine DR.stepV [_, _, _, _, _, _, _, _, _, _, _, _, _, _, _, _, _, _, _, _, _, _] rfl [(187, _, some 20), (180, _, some 13)] rfl rfl ⟨⟨rfl, rfl, rfl⟩, ⟨rfl, rfl, rfl⟩, trivial⟩ (fun ext => TL.on rfl rfl rfl (by have := hdcA hcl; simp; omega) <| TL.load hF rfl (own_mem (b := b23) (cs := (dpC y.nd.deps[k]).toArray) (e := 56) (fz := (0, 0)) (by simp) rfl) rfl TL.fin) ?_
       refine DR.stepV [_, _, _, _, _, _, _, _, _, _, _, _, _, _, _, _, _, _, _, _, _, _, _] rfl [(186, _, some 19), (188, _, some 21), (180, _, some 13)] rfl rfl ⟨⟨rfl, rfl, rfl⟩, ⟨rfl, rfl, rfl⟩, ⟨rfl, rfl, rfl⟩, trivial⟩ (fun ext => TL.on rfl rfl rfl (by have := hdcA hcl; simp; omega) <| TL.indexAddr hF rfl rfl (hcs.adi (i := y.nd.deps[k].cell.toNat) (by have := hdcA hcl; simp; omega)) (by have := hdcA hcl; omega) (by have := hdcA hcl; omega) rfl TL.fin) ?_
       refine DR.stepV [_, _, _, _, _, _, _, _, _, _, _, _, _, _, _, _, _, _, _, _, _, _, _, _] rfl [(189, _, some 22), (180, _, some 13)] rfl rfl ⟨⟨rfl, rfl, rfl⟩, ⟨rfl, rfl, rfl⟩, trivial⟩ (fun ext => TL.on rfl rfl rfl (by have := hdcA hcl; simp; omega) <| TL.load hF rfl (hcs.ro.int (i := y.nd.deps[k].cell.toNat) (by have := hdcA hcl; omega)) rfl TL.fin) ?_
       refine DR.stepV [_, _, _, _, _, _, _, _, _, _, _, _, _, _, _, _, _, _, _, _, _, _, _, _, _] rfl [(185, _, some 18), (190, _, some 23), (180, _, some 13)] rfl rfl ⟨⟨rfl, rfl, rfl⟩, ⟨rfl, rfl, rfl⟩, ⟨rfl, rfl, rfl⟩, trivial⟩ (fun ext => TL.on rfl rfl rfl (by have := hdcA hcl; simp; omega) <| TL.bin hF rfl rfl rfl rfl TL.fin) ?_
       refine DR.stepV [_, _, _, _, _, _, _, _, _, _, _, _, _, _, _, _, _, _, _, _, _, _, _, _, _, _] rfl [(180, _, some 13), (191, _, some 24), (168, _, some 1)] rfl rfl ⟨⟨rfl, rfl, rfl⟩, ⟨rfl, rfl, rfl⟩, ⟨rfl, rfl, rfl⟩, trivial⟩ (fun ext => TL.on rfl rfl rfl hww <| TL.pickT hF rfl (by have := hdcA hcl; simp; omega) rfl rfl TL.fin) ?_
       refine DR.stepV [_, _, _, _, _, _, _, _, _, _, _, _, _, _, _, _, _, _, _, _, _, _, _, _, _, _, _] rfl [(168, _, some 1), (192, _, some 25)] rfl rfl ⟨⟨rfl, rfl, rfl⟩, ⟨rfl, rfl, rfl⟩, trivial⟩ (fun ext => TL.pickF hF rfl hww rfl rfl TL.fin) ?_
       refine DR.stepV [_, _, _, _, _, _, _, _, _, _, _, _, _, _, _, _, _, _, _, _, _, _, _, _, _, _, _, _] rfl [(193, _, some 26)] rfl rfl ⟨⟨rfl, rfl, rfl⟩, trivial⟩ (fun ext => TL.move hF rfl rfl TL.fin) ?_
       refine DR.stepV [_, _, _, _, _, _, _, _, _, _, _, _, _, _, _, _, _, _, _, _, _, _, _, _, _, _, _, _, _] rfl [(23, _, none), (194, _, some 27)] rfl rfl ⟨⟨rfl, by kernel_rfl⟩, ⟨rfl, rfl, rfl⟩, trivial⟩ (fun ext => TL.off hF rfl rfl rfl (by rw [hcell _ (hdcA hcl).1 (hdcA hcl).2]; exact decide_eq_true hne2) rfl TL.fin) ?_
       refine DR.stepV [_, _, _, _, _, _, _, _, _, _, _, _, _, _, _, _, _, _, _, _, _, _, _, _, _, _, _, _, _, _] rfl [(195, _, some 28), (194, _, some 27)] rfl rfl ⟨⟨rfl, rfl, rfl⟩, ⟨rfl, rfl, rfl⟩, trivial⟩ (fun ext => TL.off hF rfl rfl rfl (by rw [hcell _ (hdcA hcl).1 (hdcA hcl).2]; exact decide_eq_true hne2) rfl TL.fin) ?_
       refine DR.stepV [_, _, _, _, _, _, _, _, _, _, _, _, _, _, _, _, _, _, _, _, _, _, _, _, _, _, _, _, _, _, _] rfl [(196, _, some 29), (194, _, some 27)] rfl rfl ⟨⟨rfl, rfl, rfl⟩, ⟨rfl, rfl, rfl⟩, trivial⟩ (fun ext => TL.off hF rfl rfl rfl (by rw [hcell _ (hdcA hcl).1 (hdcA hcl).2]; exact decide_eq_true hne2) rfl TL.fin) ?_
       refine DR.stepV [_, _, _, _, _, _, _, _, _, _, _, _, _, _, _, _, _, _, _, _, _, _, _, _, _, _, _, _, _, _, _, _] rfl [(9, _, none), (197, _, some 30)] rfl rfl ⟨⟨rfl, by kernel_rfl⟩, ⟨rfl, rfl, rfl⟩, trivial⟩ (fun ext => TL.offU hF rfl rfl rfl rfl TL.fin) ?_
       refine DR.stepV [_, _, _, _, _, _, _, _, _, _, _, _, _, _, _, _, _, _, _, _, _, _, _, _, _, _, _, _, _, _, _, _, _] rfl [(198, _, some 31), (197, _, some 30)] rfl rfl ⟨⟨rfl, rfl, rfl⟩, ⟨rfl, rfl, rfl⟩, trivial⟩ (fun ext => TL.offU hF rfl rfl rfl rfl TL.fin) ?_
       refine DR.stepV [_, _, _, _, _, _, _, _, _, _, _, _, _, _, _, _, _, _, _, _, _, _, _, _, _, _, _, _, _, _, _, _, _, _] rfl [(199, _, some 32), (197, _, some 30)] rfl rfl ⟨⟨rfl, rfl, rfl⟩, ⟨rfl, rfl, rfl⟩, trivial⟩ (fun ext => TL.offU hF rfl rfl rfl rfl TL.fin) ?_
       refine DR.stepV [_, _, _, _, _, _, _, _, _, _, _, _, _, _, _, _, _, _, _, _, _, _, _, _, _, _, _, _, _, _, _, _, _, _, _] rfl [(200, _, some 33), (197, _, some 30)] rfl rfl ⟨⟨rfl, rfl, rfl⟩, ⟨rfl, rfl, rfl⟩, trivial⟩ (fun ext => TL.offU hF rfl rfl rfl rfl TL.fin) ?_
       refine DR.stepV [_, _, _, _, _, _, _, _, _, _, _, _, _, _, _, _, _, _, _, _, _, _, _, _, _, _, _, _, _, _, _, _, _, _, _, _] rfl [(23, _, none), (197, _, some 30)] rfl rfl ⟨⟨rfl, by kernel_rfl⟩, ⟨rfl, rfl, rfl⟩, trivial⟩ (fun ext => TL.offU hF rfl rfl rfl rfl TL.fin) ?_
       refine DR.stepV [_, _, _, _, _, _, _, _, _, _, _, _, _, _, _, _, _, _, _, _, _, _, _, _, _, _, _, _, _, _, _, _, _, _, _, _, _] rfl [(202, _, some 35), (197, _, some 30)] rfl rfl ⟨⟨rfl, rfl, rfl⟩, ⟨rfl, rfl, rfl⟩, trivial⟩ (fun ext => TL.offU hF rfl rfl rfl rfl TL.fin) ?_
       refine DR.done [(203, _), (202, _), (201, _), (200, _), (199, _), (198, _), (197, _), (196, _), (195, _), (194, _), (193, _), (192, _), (191, _), (190, _), (189, _), (188, _), (187, _), (186, _), (185, _), (184, _), (183, _), (182, _), (181, _), (180, _), (179, _), (178, _), (177, _), (176, _), (175, _), (174, _), (173, _), (172, _), (171, _), (170, _), (169, _), (168, _), (167, _)] [_, _, _, _] mixed (by kernel_rfl) (by kernel_rfl) (by kernel_rfl) rfl rfl ?_
       refine TL.offU hF rfl rfl rfl rfl ?_
       refine TL.off hF rfl rfl rfl (by rw [hcell _ (hdcA hcl).1 (hdcA hcl).2]; exact decide_eq_true hne2) rfl ?_
       refine TL.pickT hF rfl (by rw [hcell _ (hdcA hcl).1 (hdcA hcl).2]; exact decide_eq_true hne2) rfl rfl ?_
       refine TL.assign hF rfl rfl ?_
       refine TL.nil ?_
       refine TQ.block_n ?_
       refine TQ.then_n ?_
       refine T.region ?_
       refine TL.move hF rfl rfl ?_
       refine TL.add hF rfl rfl (by dsimp only; omega) (by dsimp only; omega) rfl ?_
       refine TL.assign hF rfl rfl ?_
       refine TL.nil ?_
       refine TQ.pop ?_
       refine TQ.round ⟨k + 1, true⟩ ⟨by dsimp only; omega, fun h d hd => ?_⟩ (by dsimp only; omega) ⟨rfl, rfl, rfl, rfl, rfl, rfl, rfl, rfl, rfl, rfl, trivial⟩ rfl
       dsimp only at h
       cases h
      ·refine T.draw ?_
       refine DR.stepV [_] rfl [(21, _, none)] rfl rfl ⟨⟨rfl, by kernel_rfl⟩, trivial⟩ (fun ext => TL.move hF rfl rfl TL.fin) ?_
       refine DR.stepV [_, _] rfl [(167, _, some 0)] rfl rfl ⟨⟨rfl, rfl, rfl⟩, trivial⟩ (fun ext => TL.move hF rfl rfl TL.fin) ?_
       refine DR.stepV [_, _, _] rfl [(23, _, none), (168, _, some 1)] rfl rfl ⟨⟨rfl, by kernel_rfl⟩, ⟨rfl, rfl, rfl⟩, trivial⟩ (fun ext => TL.on rfl rfl rfl hww <| TL.fieldAddr hF rfl rfl TL.fin) ?_
       refine DR.stepV [_, _, _, _] rfl [(169, _, some 2), (168, _, some 1)] rfl rfl ⟨⟨rfl, rfl, rfl⟩, ⟨rfl, rfl, rfl⟩, trivial⟩ (fun ext => TL.on rfl rfl rfl hww <| TL.load hF rfl (own_mem (b := b23) (cs := (dpC y.nd.deps[k]).toArray) (e := 56) (fz := (0, 0)) (by simp) rfl) rfl TL.fin) ?_
       refine DR.stepV [_, _, _, _, _] rfl [(170, _, some 3), (168, _, some 1)] rfl rfl ⟨⟨rfl, rfl, rfl⟩, ⟨rfl, rfl, rfl⟩, trivial⟩ (fun ext => TL.on rfl rfl rfl hww <| TL.not hF rfl rfl TL.fin) ?_
       refine DR.stepV [_, _, _, _, _, _] rfl [(171, _, some 4), (168, _, some 1)] rfl rfl ⟨⟨rfl, rfl, rfl⟩, ⟨rfl, rfl, rfl⟩, trivial⟩ (fun ext => TL.on rfl rfl rfl hww <| TL.move hF rfl rfl TL.fin) ?_
       refine DR.stepV [_, _, _, _, _, _, _] rfl [(23, _, none), (172, _, some 5)] rfl rfl ⟨⟨rfl, by kernel_rfl⟩, ⟨rfl, rfl, rfl⟩, trivial⟩ (fun ext => TL.on rfl rfl rfl (by simp [hcl]) <| TL.fieldAddr hF rfl rfl TL.fin) ?_
       refine DR.stepV [_, _, _, _, _, _, _, _] rfl [(173, _, some 6), (172, _, some 5)] rfl rfl ⟨⟨rfl, rfl, rfl⟩, ⟨rfl, rfl, rfl⟩, trivial⟩ (fun ext => TL.on rfl rfl rfl (by simp [hcl]) <| TL.load hF rfl (own_mem (b := b23) (cs := (dpC y.nd.deps[k]).toArray) (e := 56) (fz := (0, 0)) (by simp) rfl) rfl TL.fin) ?_
       refine DR.stepV [_, _, _, _, _, _, _, _, _] rfl [(6, _, none), (172, _, some 5)] rfl rfl ⟨⟨rfl, by kernel_rfl⟩, ⟨rfl, rfl, rfl⟩, trivial⟩ (fun ext => TL.on rfl rfl rfl (by simp [hcl]) <| TL.move hF rfl rfl TL.fin) ?_
       refine DR.stepV [_, _, _, _, _, _, _, _, _, _] rfl [(175, _, some 8), (172, _, some 5)] rfl rfl ⟨⟨rfl, rfl, rfl⟩, ⟨rfl, rfl, rfl⟩, trivial⟩ (fun ext => TL.on rfl rfl rfl (by simp [hcl]) <| TL.len hF rfl rfl TL.fin) ?_
       refine DR.stepV [_, _, _, _, _, _, _, _, _, _, _] rfl [(176, _, some 9), (172, _, some 5)] rfl rfl ⟨⟨rfl, rfl, rfl⟩, ⟨rfl, rfl, rfl⟩, trivial⟩ (fun ext => TL.on rfl rfl rfl (by simp [hcl]) <| TL.sub hF rfl rfl (by omega) (by omega) rfl TL.fin) ?_
       refine DR.stepV [_, _, _, _, _, _, _, _, _, _, _, _] rfl [(174, _, some 7), (177, _, some 10), (172, _, some 5)] rfl rfl ⟨⟨rfl, rfl, rfl⟩, ⟨rfl, rfl, rfl⟩, ⟨rfl, rfl, rfl⟩, trivial⟩ (fun ext => TL.on rfl rfl rfl (by simp [hcl]) <| TL.callV hF (Lies_fn y.nd.deps[k].cell 0 ((cells.length : Int) - 1)) rfl rfl TL.fin) ?_
       refine DR.stepV [_, _, _, _, _, _, _, _, _, _, _, _, _] rfl [(172, _, some 5), (178, _, some 11), (168, _, some 1)] rfl rfl ⟨⟨rfl, rfl, rfl⟩, ⟨rfl, rfl, rfl⟩, ⟨rfl, rfl, rfl⟩, trivial⟩ (fun ext => TL.on rfl rfl rfl hww <| TL.pickT hF rfl (by simp [hcl]) rfl rfl TL.fin) ?_
       refine DR.stepV [_, _, _, _, _, _, _, _, _, _, _, _, _, _] rfl [(179, _, some 12), (168, _, some 1)] rfl rfl ⟨⟨rfl, rfl, rfl⟩, ⟨rfl, rfl, rfl⟩, trivial⟩ (fun ext => TL.on rfl rfl rfl hww <| TL.move hF rfl rfl TL.fin) ?_
       refine DR.stepV [_, _, _, _, _, _, _, _, _, _, _, _, _, _, _] rfl [(15, _, none), (180, _, some 13)] rfl rfl ⟨⟨rfl, by kernel_rfl⟩, ⟨rfl, rfl, rfl⟩, trivial⟩ (fun ext => TL.on rfl rfl rfl (by have := hdcA hcl; simp; omega) <| TL.move hF rfl rfl TL.fin) ?_
       refine DR.stepV [_, _, _, _, _, _, _, _, _, _, _, _, _, _, _, _] rfl [(23, _, none), (180, _, some 13)] rfl rfl ⟨⟨rfl, by kernel_rfl⟩, ⟨rfl, rfl, rfl⟩, trivial⟩ (fun ext => TL.on rfl rfl rfl (by have := hdcA hcl; simp; omega) <| TL.fieldAddr hF rfl rfl TL.fin) ?_
       refine DR.stepV [_, _, _, _, _, _, _, _, _, _, _, _, _, _, _, _, _] rfl [(182, _, some 15), (180, _, some 13)] rfl rfl ⟨⟨rfl, rfl, rfl⟩, ⟨rfl, rfl, rfl⟩, trivial⟩ (fun ext => TL.on rfl rfl rfl (by have := hdcA hcl; simp; omega) <| TL.load hF rfl (own_mem (b := b23) (cs := (dpC y.nd.deps[k]).toArray) (e := 56) (fz := (0, 0)) (by simp) rfl) rfl TL.fin) ?_
       refine DR.stepV [_, _, _, _, _, _, _, _, _, _, _, _, _, _, _, _, _, _] rfl [(181, _, some 14), (183, _, some 16), (180, _, some 13)] rfl rfl ⟨⟨rfl, rfl, rfl⟩, ⟨rfl, rfl, rfl⟩, ⟨rfl, rfl, rfl⟩, trivial⟩ (fun ext => TL.on rfl rfl rfl (by have := hdcA hcl; simp; omega) <| TL.indexAddr hF rfl rfl (hnx.adi (i := y.nd.deps[k].cell.toNat) (by have := hdcA hcl; simp; omega)) (by have := hdcA hcl; omega) (by have := hdcA hcl; omega) rfl TL.fin) ?_
       refine DR.stepV [_, _, _, _, _, _, _, _, _, _, _, _, _, _, _, _, _, _, _] rfl [(184, _, some 17), (180, _, some 13)] rfl rfl ⟨⟨rfl, rfl, rfl⟩, ⟨rfl, rfl, rfl⟩, trivial⟩ (fun ext => TL.on rfl rfl rfl (by have := hdcA hcl; simp; omega) <| TL.load hF rfl (hnx.ro.int (i := y.nd.deps[k].cell.toNat) (by have := hdcA hcl; omega)) rfl TL.fin) ?_
       refine DR.stepV [_, _, _, _, _, _, _, _, _, _, _, _, _, _, _, _, _, _, _, _] rfl [(6, _, none), (180, _, some 13)] rfl rfl ⟨⟨rfl, by kernel_rfl⟩, ⟨rfl, rfl, rfl⟩, trivial⟩ (fun ext => TL.on rfl rfl rfl (by have := hdcA hcl; simp; omega) <| TL.move hF rfl rfl TL.fin) ?_
       refine DR.stepV [_, _, _, _, _, _, _, _, _, _, _, _, _, _, _, _, _, _, _, _, _] rfl [(23, _, none), (180, _, some 13)] rfl rfl ⟨⟨rfl, by kernel_rfl⟩, ⟨rfl, rfl, rfl⟩, trivial⟩ (fun ext => TL.on rfl rfl rfl (by have := hdcA hcl; simp; omega) <| TL.fieldAddr hF rfl rfl TL.fin) ?_
       refine DR.stepV [_, _, _, _, _, _, _, _, _, _, _, _, _, _, _, _, _, _, _, _, _, _] rfl [(187, _, some 20), (180, _, some 13)] rfl rfl ⟨⟨rfl, rfl, rfl⟩, ⟨rfl, rfl, rfl⟩, trivial⟩ (fun ext => TL.on rfl rfl rfl (by have := hdcA hcl; simp; omega) <| TL.load hF rfl (own_mem (b := b23) (cs := (dpC y.nd.deps[k]).toArray) (e := 56) (fz := (0, 0)) (by simp) rfl) rfl TL.fin) ?_
       refine DR.stepV [_, _, _, _, _, _, _, _, _, _, _, _, _, _, _, _, _, _, _, _, _, _, _] rfl [(186, _, some 19), (188, _, some 21), (180, _, some 13)] rfl rfl ⟨⟨rfl, rfl, rfl⟩, ⟨rfl, rfl, rfl⟩, ⟨rfl, rfl, rfl⟩, trivial⟩ (fun ext => TL.on rfl rfl rfl (by have := hdcA hcl; simp; omega) <| TL.indexAddr hF rfl rfl (hcs.adi (i := y.nd.deps[k].cell.toNat) (by have := hdcA hcl; simp; omega)) (by have := hdcA hcl; omega) (by have := hdcA hcl; omega) rfl TL.fin) ?_
       refine DR.stepV [_, _, _, _, _, _, _, _, _, _, _, _, _, _, _, _, _, _, _, _, _, _, _, _] rfl [(189, _, some 22), (180, _, some 13)] rfl rfl ⟨⟨rfl, rfl, rfl⟩, ⟨rfl, rfl, rfl⟩, trivial⟩ (fun ext => TL.on rfl rfl rfl (by have := hdcA hcl; simp; omega) <| TL.load hF rfl (hcs.ro.int (i := y.nd.deps[k].cell.toNat) (by have := hdcA hcl; omega)) rfl TL.fin) ?_
       refine DR.stepV [_, _, _, _, _, _, _, _, _, _, _, _, _, _, _, _, _, _, _, _, _, _, _, _, _] rfl [(185, _, some 18), (190, _, some 23), (180, _, some 13)] rfl rfl ⟨⟨rfl, rfl, rfl⟩, ⟨rfl, rfl, rfl⟩, ⟨rfl, rfl, rfl⟩, trivial⟩ (fun ext => TL.on rfl rfl rfl (by have := hdcA hcl; simp; omega) <| TL.bin hF rfl rfl rfl rfl TL.fin) ?_
       refine DR.stepV [_, _, _, _, _, _, _, _, _, _, _, _, _, _, _, _, _, _, _, _, _, _, _, _, _, _] rfl [(180, _, some 13), (191, _, some 24), (168, _, some 1)] rfl rfl ⟨⟨rfl, rfl, rfl⟩, ⟨rfl, rfl, rfl⟩, ⟨rfl, rfl, rfl⟩, trivial⟩ (fun ext => TL.on rfl rfl rfl hww <| TL.pickT hF rfl (by have := hdcA hcl; simp; omega) rfl rfl TL.fin) ?_
       refine DR.stepV [_, _, _, _, _, _, _, _, _, _, _, _, _, _, _, _, _, _, _, _, _, _, _, _, _, _, _] rfl [(168, _, some 1), (192, _, some 25)] rfl rfl ⟨⟨rfl, rfl, rfl⟩, ⟨rfl, rfl, rfl⟩, trivial⟩ (fun ext => TL.pickF hF rfl hww rfl rfl TL.fin) ?_
       refine DR.stepV [_, _, _, _, _, _, _, _, _, _, _, _, _, _, _, _, _, _, _, _, _, _, _, _, _, _, _, _] rfl [(193, _, some 26)] rfl rfl ⟨⟨rfl, rfl, rfl⟩, trivial⟩ (fun ext => TL.move hF rfl rfl TL.fin) ?_
       refine DR.stepV [_, _, _, _, _, _, _, _, _, _, _, _, _, _, _, _, _, _, _, _, _, _, _, _, _, _, _, _, _] rfl [(23, _, none), (194, _, some 27)] rfl rfl ⟨⟨rfl, by kernel_rfl⟩, ⟨rfl, rfl, rfl⟩, trivial⟩ (fun ext => TL.on rfl rfl rfl (by rw [hcell _ (hdcA hcl).1 (hdcA hcl).2]; exact decide_eq_false (fun h => h hne2)) <| TL.fieldAddr hF rfl rfl TL.fin) ?_
       refine DR.stepV [_, _, _, _, _, _, _, _, _, _, _, _, _, _, _, _, _, _, _, _, _, _, _, _, _, _, _, _, _, _] rfl [(195, _, some 28), (194, _, some 27)] rfl rfl ⟨⟨rfl, rfl, rfl⟩, ⟨rfl, rfl, rfl⟩, trivial⟩ (fun ext => TL.on rfl rfl rfl (by rw [hcell _ (hdcA hcl).1 (hdcA hcl).2]; exact decide_eq_false (fun h => h hne2)) <| TL.load hF rfl (own_mem (b := b23) (cs := (dpC y.nd.deps[k]).toArray) (e := 56) (fz := (0, 0)) (by simp) rfl) rfl TL.fin) ?_
       refine DR.stepV [_, _, _, _, _, _, _, _, _, _, _, _, _, _, _, _, _, _, _, _, _, _, _, _, _, _, _, _, _, _, _] rfl [(196, _, some 29), (194, _, some 27)] rfl rfl ⟨⟨rfl, rfl, rfl⟩, ⟨rfl, rfl, rfl⟩, trivial⟩ (fun ext => TL.on rfl rfl rfl (by rw [hcell _ (hdcA hcl).1 (hdcA hcl).2]; exact decide_eq_false (fun h => h hne2)) <| TL.move hF rfl rfl TL.fin) ?_
       refine DR.stepV [_, _, _, _, _, _, _, _, _, _, _, _, _, _, _, _, _, _, _, _, _, _, _, _, _, _, _, _, _, _, _, _] rfl [(9, _, none), (197, _, some 30)] rfl rfl ⟨⟨rfl, by kernel_rfl⟩, ⟨rfl, rfl, rfl⟩, trivial⟩ (fun ext => TL.off hF rfl rfl rfl hcl rfl TL.fin) ?_
       refine DR.stepV [_, _, _, _, _, _, _, _, _, _, _, _, _, _, _, _, _, _, _, _, _, _, _, _, _, _, _, _, _, _, _, _, _] rfl [(198, _, some 31), (197, _, some 30)] rfl rfl ⟨⟨rfl, rfl, rfl⟩, ⟨rfl, rfl, rfl⟩, trivial⟩ (fun ext => TL.off hF rfl rfl rfl hcl rfl TL.fin) ?_
       refine DR.stepV [_, _, _, _, _, _, _, _, _, _, _, _, _, _, _, _, _, _, _, _, _, _, _, _, _, _, _, _, _, _, _, _, _, _] rfl [(199, _, some 32), (197, _, some 30)] rfl rfl ⟨⟨rfl, rfl, rfl⟩, ⟨rfl, rfl, rfl⟩, trivial⟩ (fun ext => TL.off hF rfl rfl rfl hcl rfl TL.fin) ?_
       refine DR.stepV [_, _, _, _, _, _, _, _, _, _, _, _, _, _, _, _, _, _, _, _, _, _, _, _, _, _, _, _, _, _, _, _, _, _, _] rfl [(200, _, some 33), (197, _, some 30)] rfl rfl ⟨⟨rfl, rfl, rfl⟩, ⟨rfl, rfl, rfl⟩, trivial⟩ (fun ext => TL.off hF rfl rfl rfl hcl rfl TL.fin) ?_
       refine DR.stepV [_, _, _, _, _, _, _, _, _, _, _, _, _, _, _, _, _, _, _, _, _, _, _, _, _, _, _, _, _, _, _, _, _, _, _, _] rfl [(23, _, none), (197, _, some 30)] rfl rfl ⟨⟨rfl, by kernel_rfl⟩, ⟨rfl, rfl, rfl⟩, trivial⟩ (fun ext => TL.off hF rfl rfl rfl hcl rfl TL.fin) ?_
       refine DR.stepV [_, _, _, _, _, _, _, _, _, _, _, _, _, _, _, _, _, _, _, _, _, _, _, _, _, _, _, _, _, _, _, _, _, _, _, _, _] rfl [(202, _, some 35), (197, _, some 30)] rfl rfl ⟨⟨rfl, rfl, rfl⟩, ⟨rfl, rfl, rfl⟩, trivial⟩ (fun ext => TL.off hF rfl rfl rfl hcl rfl TL.fin) ?_
       refine DR.done [(203, _), (202, _), (201, _), (200, _), (199, _), (198, _), (197, _), (196, _), (195, _), (194, _), (193, _), (192, _), (191, _), (190, _), (189, _), (188, _), (187, _), (186, _), (185, _), (184, _), (183, _), (182, _), (181, _), (180, _), (179, _), (178, _), (177, _), (176, _), (175, _), (174, _), (173, _), (172, _), (171, _), (170, _), (169, _), (168, _), (167, _)] [_, _, _, _] mixed (by kernel_rfl) (by kernel_rfl) (by kernel_rfl) rfl rfl ?_
       refine TL.off hF rfl rfl rfl hcl rfl ?_
       refine TL.on rfl rfl rfl (by rw [hcell _ (hdcA hcl).1 (hdcA hcl).2]; exact decide_eq_false (fun h => h hne2)) ?_
       refine TL.pickF hF rfl hcl rfl rfl ?_
       refine TL.pickF hF rfl (by rw [hcell _ (hdcA hcl).1 (hdcA hcl).2]; exact decide_eq_false (fun h => h hne2)) rfl rfl ?_
       refine TL.assign hF rfl rfl ?_
       refine TL.nil ?_
       refine TQ.block_n ?_
       refine TQ.then_n ?_
       refine T.region ?_
       refine TL.move hF rfl rfl ?_
       refine TL.add hF rfl rfl (by dsimp only; omega) (by dsimp only; omega) rfl ?_
       refine TL.assign hF rfl rfl ?_
       refine TL.nil ?_
       refine TQ.pop ?_
       refine TQ.round ⟨k + 1, false⟩ ⟨by dsimp only; omega, fun h d hd => ?_⟩ (by dsimp only; omega) ⟨rfl, rfl, rfl, rfl, rfl, rfl, rfl, rfl, rfl, rfl, trivial⟩ rfl
       dsimp only at h
       rw [htk] at hd
       rcases List.mem_append.1 hd with hd | hd
       ·exact hwn hww d hd
       ·rw [List.mem_singleton.1 hd]
        rintro (⟨h1, h2⟩ | ⟨h1, h2⟩)
        ·exact h2 hne2
        ·rw [hcl] at h1; cases h1
     ·refine T.exit ?_
      refine TQ.then_x ?_
      refine TQ.then_x ?_
      refine TQ.block_x ?_
      refine TQ.then_n ?_
      refine T.seq ?_
      refine T.region ?_
      refine TL.move hF rfl rfl ?_
      refine TL.not hF rfl rfl ?_
      refine TL.move hF rfl rfl ?_
      refine TL.on rfl rfl rfl rfl ?_
      refine TL.move hF rfl rfl ?_
      refine TL.on rfl rfl rfl rfl ?_
      refine TL.not hF rfl rfl ?_
      refine TL.pickF hF rfl rfl rfl rfl ?_
      refine TL.nil ?_
      refine TQ.then_n ?_
      refine T.cond_f rfl (by
       have hke : y.nd.deps.length ≤ k := by have h : ¬ (k : Int) < (y.nd.deps.length : Int) := ht159; omega
       cases hwe : why with
       | true => rfl
       | false =>
        obtain ⟨d, hd, hw⟩ := hwy
        rw [List.take_of_length_le hke] at hwn
        exact absurd hw (hwn hwe d hd)) ?_
      refine T.skip ?_
      refine TQ.block_n ?_
      refine TQ.then_n ?_
      refine T.region ?_
      refine TL.move hF rfl rfl ?_
      refine TL.add hF rfl rfl (by omega) (by omega) rfl ?_
      refine TL.assign hF rfl rfl ?_
      refine TL.nil ?_
      refine TQ.pop ?_
      refine TQ.round (i2 + 1) (by omega) (by omega) ⟨rfl, rfl, rfl, rfl, rfl, rfl, trivial⟩ rfl
    ·refine T.exit ?_
     refine TQ.then_x ?_
     refine TQ.then_x ?_
     refine TQ.block_x ?_
     refine TQ.then_n ?_
     refine T.seq ?_
     refine T.region ?_
     refine TL.call hF (traced_law hT) rfl rfl ?_
     rintro _ _ rfl
     refine TL.assign hF rfl rfl ?_
     refine TL.nil ?_
     refine TQ.then_n ?_
     refine T.ret ?_
     exact TQ.retsF [4] _ hb rfl rfl rfl (fun _ => rfl)
end Go.Proofs.YtdiacobmhkmljaaDoor
namespace Go.Proofs.YtdiacobmhkmljaaDoor
open Go.Sl Go.ChangeShapes Go.WideShapes Go.ChangeAt Go.RowKit
set_option maxRecDepth 100000 in
theorem traceStable_lifted (os : Os) (started : os.Started) (H : Type) (enc : TypeId × Value → H) :
    ReturnsInHanded {} Tryd.checked os 4 .any (fun w args => (Rows.traceStableSpec.pre enc Tryd.prog Tryd.f4 [] false w args ∧ laidMetH Tryd.prog laidL w) ∧ sizedMet enc Tryd.prog Tryd.f4 (OpenSpec.ofChange Rows.traceStableSpec) false w args)
      (Rows.traceStableSpec.post enc Tryd.prog Tryd.f4 false true false false) := by
  refine returnsInHanded_of_change_and (C := Tryd.checked) (X := fun w _ => laidMetH Tryd.prog laidL w) (fun _ _ _ hh h => h.of_heap hh) Tryd.own started (by kernel_rfl) Tryd.func4
    (ChangeSpec.witness_shaped (enc := enc) (C := Tryd.checked) (os := os) (X := fun w _ => laidMetH Tryd.prog laidL w) false (World.doorLaid Tryd.prog 2000 os) #[.slice none 0 0, .slice none 0 0] 8 rfl (World.shaped_of_RefB (by kernel_rfl) (by kernel_rfl)) (by kernel_rfl) (by kernel_rfl) (by kernel_rfl) (door_met os _)) ?_
  intro W base args ds gs before hval0 hW _ hwt hL _
  have hval' : ∀ (j : Nat) t v, Tryd.f4.params[j]? = some t → args[j]? = some v → Value.okWide Tryd.prog W .any base t v := hval0
  have hW' := hW
  obtain ⟨p, q, hA0, hV, rfl, hfz, hnd⟩ := hW
  have hA : DataW.TrodAll enc Tryd.prog W 0 (fun _ => true) true [22, 22] args.toList ds p := hA0
  obtain ⟨v0, v1, d0, d1, p0, p1, rfl, rfl, rfl, h0, h1⟩ := trodAll_two hA
  obtain ⟨_, _, _, rfl⟩ := okWide_slice u22 (hval' 0 22 v0 rfl rfl)
  obtain ⟨_, h0⟩ := h0
  obtain ⟨a0, xs0, c0, e0, hx0, hl0, hb0⟩ := ints_arg h0
  obtain ⟨_, _, _, rfl⟩ := okWide_slice u22 (hval' 1 22 v1 rfl rfl)
  obtain ⟨_, h1⟩ := h1
  obtain ⟨a1, xs1, c1, e1, hx1, hl1, hb1⟩ := ints_arg h1
  rw [e0, e1] at hW' ⊢
  refine (calls_true (TraceStable_fn (tabs_of_laid hL) hx0 hl0 hb0 hx1 hl1 hb1)).mono fun e W' ⟨he, hw⟩ => ⟨_, he, ?_⟩
  exact law_post (f := Tryd.f4) Tryd.laidOut rfl 4 rfl u4 hW' rfl (by decide +kernel) hw
theorem traceStable_said : Rows.TraceStableSaid :=
  OpenClaim.holds_of_wide 4 Tryd.f4 rfl rfl rfl rfl rfl rfl rfl ⟨rfl, rfl, rfl, rfl, rfl⟩ rfl rfl rfl rfl rfl (by kernel_rfl) Tryd.func4 (by kernel_rfl)
    (of_decide_eq_true (by kernel_rfl)) (by unfold Func.isWrapper; first | (rw [if_pos (by decide +kernel)]; kernel_rfl) | (rw [if_neg (by decide +kernel)]; exact ⟨rfl, rfl⟩))
    (fun os started H enc _ => traceStable_lifted os started H enc)
theorem traceStable_holds : Rows.TraceStableCardSaid :=
  Claim7.holds_tied_plain_at .later [] [.funcs, .data] true (true, "9424b675a5bf1259037b7c80c1e1d1308b039b71f1eedf5d2444196735f82e90") false
    traceStable_said (fun _ h => by cases h) (by kernel_rfl) (fun _ h => by cases h) traceStable_row_tie rfl ⟨rfl, rfl⟩ (by kernel_rfl) rfl
    (fun f fn hf hfn => by
      obtain rfl : f = 4 := Option.some.inj ((show Tryd.prog.funcNamed "deltaworks/deltaworkslaw24.TraceStable" = some 4 by kernel_rfl).symm.trans hf) |>.symm
      obtain rfl : fn = Tryd.f4 := (Option.some.inj (Tryd.func4.symm.trans hfn)).symm
      exact ⟨by kernel_rfl, fun j t ht => by
        have ht2 : (#[22, 22] : Array TypeId)[j]? = some t := ht
        have hm : t ∈ ([22, 22] : List TypeId) := by simpa using Array.mem_of_getElem? ht2
        have hall : (([22, 22] : List TypeId).all fun u => !Tryd.prog.wantsStandIn u) = true := by kernel_rfl
        exact (show Tryd.prog.wantsStandIn t = false by simpa using List.all_eq_true.1 hall t hm)⟩)
    (by kernel_rfl)
#print axioms traceStable_holds
end Go.Proofs.YtdiacobmhkmljaaDoor
