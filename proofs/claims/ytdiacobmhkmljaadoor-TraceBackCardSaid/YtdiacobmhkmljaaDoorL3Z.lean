/- The theorem of there and back, for every input. No condition. -/
import Derived.Test.YtdiacobmhkmljaaDoorTf
import Derived.Test.YtdiacobmhkmljaaDoorCards
import Derived.Test.YtdiacobmhkmljaaDoorTie
/- Play with rounds that lie in memory; cells put back; numbers in order. -/
namespace Go.Proofs.YtdiacobmhkmljaaDoor
open Go.Sl
variable {S : Nat → Prop} {w0 : World} {η : Heap}
theorem _root_.Go.Sl.Rt.frz {P : Program} {g : FuncId} {args : Array Value} {R : Value → Heap → Prop} (ηr : Heap) (h : ∀ S' w1, Frz S S' w0 w1 ηr → (∀ η' a v, At S' w1 η' a v → At S w0 (ηr ++ η') a v) → Rt P g args S' w1 η (fun v η' => R v (ηr ++ η'))) : Rt P g args S w0 (ηr ++ η) R := fun w hh => by
 obtain ⟨S', hz, hh', hb⟩ := frz_mk2 hh
 exact (h S' w hz hb w hh').mono fun e w' ⟨v, η', h1, h2, h3⟩ => ⟨v, ηr ++ η', h1, hz.back _ _ h2, h3⟩
theorem Play_fr {fa ca ra : Option Addr} {fl : List TE} {fc cc rc : Nat} {cells : List Int} {top : Key} {ps : List EH} (ηr : Heap) (hT : Tabs S w0) (hf : Fs S w0 [] fa fl) (hfl : fl.length < 9223372036854775808) (hc : Row S w0 [] ca (ints cells)) (hcl : cells.length < 9223372036854775808) (hr : GL kC S w0 ηr ra ps) (hrl0 : ps.length < 9223372036854775808) (hrl1 : ∀ p ∈ ps, p.2.1.length < 9223372036854775808) :
  Rt Tryd.prog 11 [.slice fa fl.length fc, .slice ca cells.length cc, kV top, .slice ra ps.length rc].toArray S w0 (ηr ++ η) (fun v η' => ∃ a cap l segs, v = .tuple #[.slice a l.length cap, .int .i64 (playS (fl.map TE.ex) cells top (erounds ps)).2] ∧ l.map (·.r) = (playS (fl.map TE.ex) cells top (erounds ps)).1 ∧ RL S w0 segs a l ∧ l.length ≤ cap ∧ η' = segs ++ η) :=
 Rt.frz ηr fun S' w1 hz hb => (Play_fn (hT.old hz) (hf.old hz) hfl (hc.old hz) hcl (hr.frz hz) hrl0 hrl1).mono fun v η' ⟨a, cap, l, segs, h1, h2, h3, h4, h5⟩ =>
  ⟨a, cap, l, ηr ++ segs, h1, h2, h3.map fun _ _ hr => hr.thaw hb, h4, by rw [h5, List.append_assoc]⟩
/-- What puts cells back. -/
def backL (cells : List Int) : List (Int × Int) := cells.zipIdx.map fun x => ((x.2 : Int), x.1)
theorem backL_len (cells : List Int) : (backL cells).length = cells.length := by simp [backL]
theorem backL_get (cells : List Int) {i : Nat} (h : i < cells.length) : (backL cells)[i]'(by rw [backL_len]; exact h) = ((i : Int), cells[i]) := by simp [backL]
theorem back_go {cells : List Int} : ∀ (i : Nat) (c : List Int), i ≤ cells.length → c.length = cells.length → ∀ j, (editS c ((backL cells).take i))[j]? = if j < i then cells[j]? else c[j]?
 | 0, c, _, _, j => by simp [editS]
 | i + 1, c, hi, hc, j => by
  have hil : i < (backL cells).length := by rw [backL_len]; omega
  rw [List.take_succ_eq_append_getElem hil, editS_snoc, backL_get cells (by omega)]
  simp only [Int.toNat_natCast]
  rw [List.getElem?_set, back_go i c (by omega) hc j]
  by_cases h1 : i = j
  ·subst h1
   rw [if_pos rfl, if_pos (by rw [editS_len]; omega), if_pos (by omega), List.getElem?_eq_getElem (by omega)]
  ·rw [if_neg h1]
   by_cases h2 : j < i
   ·rw [if_pos h2, if_pos (by omega)]
   ·rw [if_neg h2, if_neg (by omega)]
theorem back_ok {cells c : List Int} (h : c.length = cells.length) : editS c (backL cells) = cells := by
 have h1 := back_go cells.length c (Nat.le_refl _) h
 rw [List.take_of_length_le (by rw [backL_len]; omega)] at h1
 apply List.ext_getElem?
 intro j
 rw [h1 j]
 by_cases h2 : j < cells.length
 ·rw [if_pos h2]
 ·rw [if_neg h2, List.getElem?_eq_none (by omega), List.getElem?_eq_none (by omega)]
theorem run_made {F : List Ex} {cells : List Int} {top : Key} (h : askedS F cells top = 0) : runE F cells top = (traceS F cells top, 0) := by unfold runE; rw [if_pos h]
theorem tra_of {F : List Ex} {cells : List Int} {top : Key} (h : askedS F cells top = 0) : Tra F cells top (traceS F cells top) ∧ (callsS F cells top).2 = V F cells top ∧ (traceS F cells top).length ≤ 1608 := by
 obtain ⟨hs, k1, k2, k3, k4⟩ := scn_of h
 obtain ⟨hg, h2, h3⟩ := calls_ok (cells := cells) hs.right k1 k2 k3 (by omega)
 refine ⟨h3, h2, ?_⟩
 have := good_len hs hg
 unfold traceS; rw [sort_len hg.nd]; exact this
theorem play_made {F : List Ex} {cells : List Int} {top : Key} {ps : List EH} (h : askedS F cells top = 0) (h6 : ps.length ≤ 6) (hr : ∀ p ∈ ps, p.2.1.length ≤ 30 ∧ ∀ x ∈ p.2.1, okEdit cells.length x = true) : playS F cells top (erounds ps) = (roundsS F top (erounds ps) cells (traceS F cells top), 0) := by
 unfold playS
 rw [if_pos h, long_no (by omega) (fun p hp => (hr p hp).1), edits_yes (fun p hp => (hr p hp).2)]; rfl
set_option maxHeartbeats 2000000 in
theorem Ordered_true {a : Option Addr} {xs : List Int} {c m : Nat} (hx : Row S w0 [] a (ints xs)) (hl : xs.length < 9223372036854775808) (hm : m < 9223372036854775808) (hu : xs.Pairwise (· < ·)) (hb : ∀ x ∈ xs, 0 ≤ x ∧ x < m) :
  Rt Tryd.prog 19 [.slice a xs.length c, .int .i64 (m : Int)].toArray S w0 η (fun v η' => v = .bool true ∧ η' = η) := by
 have hF := open_wide
 refine Rt.of (fn := Tryd.f19) Tryd.func19 rfl rfl ?_
 refine T.seq ?_
 refine T.region ?_
 refine TL.assign hF rfl rfl ?_
 refine TL.nil ?_
 refine TQ.then_n ?_
 refine T.seq ?_
 refine T.seq ?_
 refine T.region ?_
 refine TL.assign hF rfl rfl ?_
 refine TL.nil ?_
 refine TQ.then_n ?_
 refine T.block ?_
 refine T.loop (ι := Nat) (fun i => i ≤ xs.length) (fun i => [(0, .slice a xs.length c), (1, .int .i64 (m : Int)), (4, .bool false), (5, .int .i64 (i : Int))]) (fun _ => η) (fun i => xs.length - i) 0 (Nat.zero_le _) ⟨rfl, rfl, rfl, rfl, trivial⟩ rfl ?_
 rintro i hi
 refine T.seq ?_
 refine T.seq ?_
 refine T.region ?_
 refine TL.move hF rfl rfl ?_
 refine TL.move hF rfl rfl ?_
 refine TL.len hF rfl rfl ?_
 refine TL.bin hF rfl rfl rfl rfl ?_
 refine TL.nil ?_
 refine TQ.then_n ?_
 first | refine T.cond_d rfl (fun ht9 => ?_) (fun ht9 => ?_) | refine T.cond _ rfl (fun ht9 => ?_) (fun ht9 => ?_)
 ·refine T.skip ?_
  refine TQ.then_n ?_
  refine T.seq ?_
  refine T.block ?_
  refine T.seq ?_
  rcases Nat.eq_zero_or_pos i with hi0 | hi0
  ·have hil : i < xs.length := by have h : (i : Int) < (xs.length : Int) := ht9; omega
   have hbi := hb _ (List.getElem_mem hil)
   refine T.draw ?_
   refine DR.stepV [_] rfl [(0, _, none)] rfl rfl ⟨⟨rfl, by kernel_rfl⟩, trivial⟩ (fun ext => TL.move hF rfl rfl TL.fin) ?_
   refine DR.stepV [_, _] rfl [(5, _, none)] rfl rfl ⟨⟨rfl, by kernel_rfl⟩, trivial⟩ (fun ext => TL.move hF rfl rfl TL.fin) ?_
   refine DR.stepV [_, _, _] rfl [(12, _, some 0), (13, _, some 1)] rfl rfl ⟨⟨rfl, rfl, rfl⟩, ⟨rfl, rfl, rfl⟩, trivial⟩ (fun ext => TL.indexAddr hF rfl rfl (hx.adi (i := i) (by simpa using hil)) (by omega) (by omega) rfl TL.fin) ?_
   refine DR.stepV [_, _, _, _] rfl [(14, _, some 2)] rfl rfl ⟨⟨rfl, rfl, rfl⟩, trivial⟩ (fun ext => TL.load hF rfl (hx.ro.int (i := i) hil) rfl TL.fin) ?_
   refine DR.stepV [_, _, _, _, _] rfl [(1, _, none)] rfl rfl ⟨⟨rfl, by kernel_rfl⟩, trivial⟩ (fun ext => TL.move hF rfl rfl TL.fin) ?_
   refine DR.stepV [_, _, _, _, _, _] rfl [(16, _, some 4)] rfl rfl ⟨⟨rfl, rfl, rfl⟩, trivial⟩ (fun ext => TL.sub hF rfl rfl (by omega) (by omega) rfl TL.fin) ?_
   refine DR.stepV [_, _, _, _, _, _, _] rfl [(15, _, some 3), (17, _, some 5)] rfl rfl ⟨⟨rfl, rfl, rfl⟩, ⟨rfl, rfl, rfl⟩, trivial⟩ (fun ext => TL.callV hF (Lies_fn xs[i] 0 ((m : Int) - 1)) rfl rfl TL.fin) ?_
   refine DR.stepV [_, _, _, _, _, _, _, _] rfl [(18, _, some 6)] rfl rfl ⟨⟨rfl, rfl, rfl⟩, trivial⟩ (fun ext => TL.not hF rfl rfl TL.fin) ?_
   refine DR.stepV [_, _, _, _, _, _, _, _, _] rfl [(19, _, some 7)] rfl rfl ⟨⟨rfl, rfl, rfl⟩, trivial⟩ (fun ext => TL.move hF rfl rfl TL.fin) ?_
   refine DR.stepV [_, _, _, _, _, _, _, _, _, _] rfl [(5, _, none), (20, _, some 8)] rfl rfl ⟨⟨rfl, by kernel_rfl⟩, ⟨rfl, rfl, rfl⟩, trivial⟩ (fun ext => TL.on rfl rfl rfl (by simp; omega) <| TL.move hF rfl rfl TL.fin) ?_
   refine DR.stepV [_, _, _, _, _, _, _, _, _, _, _] rfl [(21, _, some 9), (20, _, some 8)] rfl rfl ⟨⟨rfl, rfl, rfl⟩, ⟨rfl, rfl, rfl⟩, trivial⟩ (fun ext => TL.on rfl rfl rfl (by simp; omega) <| TL.bin hF rfl rfl rfl rfl TL.fin) ?_
   refine DR.stepV [_, _, _, _, _, _, _, _, _, _, _, _] rfl [(22, _, some 10), (20, _, some 8)] rfl rfl ⟨⟨rfl, rfl, rfl⟩, ⟨rfl, rfl, rfl⟩, trivial⟩ (fun ext => TL.on rfl rfl rfl (by simp; omega) <| TL.move hF rfl rfl TL.fin) ?_
   refine DR.stepV [_, _, _, _, _, _, _, _, _, _, _, _, _] rfl [(0, _, none), (23, _, some 11)] rfl rfl ⟨⟨rfl, by kernel_rfl⟩, ⟨rfl, rfl, rfl⟩, trivial⟩ (fun ext => TL.off hF rfl rfl rfl (decide_eq_false (by omega)) rfl TL.fin) ?_
   refine DR.stepV [_, _, _, _, _, _, _, _, _, _, _, _, _, _] rfl [(5, _, none), (23, _, some 11)] rfl rfl ⟨⟨rfl, by kernel_rfl⟩, ⟨rfl, rfl, rfl⟩, trivial⟩ (fun ext => TL.off hF rfl rfl rfl (decide_eq_false (by omega)) rfl TL.fin) ?_
   refine DR.stepV [_, _, _, _, _, _, _, _, _, _, _, _, _, _, _] rfl [(24, _, some 12), (25, _, some 13), (23, _, some 11)] rfl rfl ⟨⟨rfl, rfl, rfl⟩, ⟨rfl, rfl, rfl⟩, ⟨rfl, rfl, rfl⟩, trivial⟩ (fun ext => TL.off hF rfl rfl rfl (decide_eq_false (by omega)) rfl TL.fin) ?_
   refine DR.stepV [_, _, _, _, _, _, _, _, _, _, _, _, _, _, _, _] rfl [(26, _, some 14), (23, _, some 11)] rfl rfl ⟨⟨rfl, rfl, rfl⟩, ⟨rfl, rfl, rfl⟩, trivial⟩ (fun ext => TL.off hF rfl rfl rfl (decide_eq_false (by omega)) rfl TL.fin) ?_
   refine DR.stepV [_, _, _, _, _, _, _, _, _, _, _, _, _, _, _, _, _] rfl [(0, _, none), (23, _, some 11)] rfl rfl ⟨⟨rfl, by kernel_rfl⟩, ⟨rfl, rfl, rfl⟩, trivial⟩ (fun ext => TL.off hF rfl rfl rfl (decide_eq_false (by omega)) rfl TL.fin) ?_
   refine DR.stepV [_, _, _, _, _, _, _, _, _, _, _, _, _, _, _, _, _, _] rfl [(5, _, none), (23, _, some 11)] rfl rfl ⟨⟨rfl, by kernel_rfl⟩, ⟨rfl, rfl, rfl⟩, trivial⟩ (fun ext => TL.off hF rfl rfl rfl (decide_eq_false (by omega)) rfl TL.fin) ?_
   refine DR.stepV [_, _, _, _, _, _, _, _, _, _, _, _, _, _, _, _, _, _, _] rfl [(29, _, some 17), (23, _, some 11)] rfl rfl ⟨⟨rfl, rfl, rfl⟩, ⟨rfl, rfl, rfl⟩, trivial⟩ (fun ext => TL.off hF rfl rfl rfl (decide_eq_false (by omega)) rfl TL.fin) ?_
   refine DR.stepV [_, _, _, _, _, _, _, _, _, _, _, _, _, _, _, _, _, _, _, _] rfl [(28, _, some 16), (30, _, some 18), (23, _, some 11)] rfl rfl ⟨⟨rfl, rfl, rfl⟩, ⟨rfl, rfl, rfl⟩, ⟨rfl, rfl, rfl⟩, trivial⟩ (fun ext => TL.off hF rfl rfl rfl (decide_eq_false (by omega)) rfl TL.fin) ?_
   refine DR.stepV [_, _, _, _, _, _, _, _, _, _, _, _, _, _, _, _, _, _, _, _, _] rfl [(31, _, some 19), (23, _, some 11)] rfl rfl ⟨⟨rfl, rfl, rfl⟩, ⟨rfl, rfl, rfl⟩, trivial⟩ (fun ext => TL.off hF rfl rfl rfl (decide_eq_false (by omega)) rfl TL.fin) ?_
   refine DR.done [(32, _), (31, _), (30, _), (29, _), (28, _), (27, _), (26, _), (25, _), (24, _), (23, _), (22, _), (21, _), (20, _), (19, _), (18, _), (17, _), (16, _), (15, _), (14, _), (13, _), (12, _)] [_, _, _] mixed (by kernel_rfl) (by kernel_rfl) (by kernel_rfl) rfl rfl ?_
   refine TL.off hF rfl rfl rfl (decide_eq_false (by omega)) rfl ?_
   refine TL.on rfl rfl rfl (by simp; omega) ?_
   refine TL.pickF hF rfl (decide_eq_false (by omega)) rfl rfl ?_
   refine TL.pickF hF rfl (by simp; omega) rfl rfl ?_
   refine TL.nil ?_
   refine TQ.then_n ?_
   refine T.cond_f rfl rfl ?_
   refine T.skip ?_
   refine TQ.block_n ?_
   refine TQ.then_n ?_
   refine T.region ?_
   refine TL.move hF rfl rfl ?_
   refine TL.add hF rfl rfl (by omega) (by omega) rfl ?_
   refine TL.assign hF rfl rfl ?_
   refine TL.nil ?_
   refine TQ.round (i + 1) (by omega) (by omega) ⟨rfl, rfl, rfl, rfl, trivial⟩ rfl
  ·have hil : i < xs.length := by have h : (i : Int) < (xs.length : Int) := ht9; omega
   have hbi := hb _ (List.getElem_mem hil)
   refine T.draw ?_
   refine DR.stepV [_] rfl [(0, _, none)] rfl rfl ⟨⟨rfl, by kernel_rfl⟩, trivial⟩ (fun ext => TL.move hF rfl rfl TL.fin) ?_
   refine DR.stepV [_, _] rfl [(5, _, none)] rfl rfl ⟨⟨rfl, by kernel_rfl⟩, trivial⟩ (fun ext => TL.move hF rfl rfl TL.fin) ?_
   refine DR.stepV [_, _, _] rfl [(12, _, some 0), (13, _, some 1)] rfl rfl ⟨⟨rfl, rfl, rfl⟩, ⟨rfl, rfl, rfl⟩, trivial⟩ (fun ext => TL.indexAddr hF rfl rfl (hx.adi (i := i) (by simpa using hil)) (by omega) (by omega) rfl TL.fin) ?_
   refine DR.stepV [_, _, _, _] rfl [(14, _, some 2)] rfl rfl ⟨⟨rfl, rfl, rfl⟩, trivial⟩ (fun ext => TL.load hF rfl (hx.ro.int (i := i) hil) rfl TL.fin) ?_
   refine DR.stepV [_, _, _, _, _] rfl [(1, _, none)] rfl rfl ⟨⟨rfl, by kernel_rfl⟩, trivial⟩ (fun ext => TL.move hF rfl rfl TL.fin) ?_
   refine DR.stepV [_, _, _, _, _, _] rfl [(16, _, some 4)] rfl rfl ⟨⟨rfl, rfl, rfl⟩, trivial⟩ (fun ext => TL.sub hF rfl rfl (by omega) (by omega) rfl TL.fin) ?_
   refine DR.stepV [_, _, _, _, _, _, _] rfl [(15, _, some 3), (17, _, some 5)] rfl rfl ⟨⟨rfl, rfl, rfl⟩, ⟨rfl, rfl, rfl⟩, trivial⟩ (fun ext => TL.callV hF (Lies_fn xs[i] 0 ((m : Int) - 1)) rfl rfl TL.fin) ?_
   refine DR.stepV [_, _, _, _, _, _, _, _] rfl [(18, _, some 6)] rfl rfl ⟨⟨rfl, rfl, rfl⟩, trivial⟩ (fun ext => TL.not hF rfl rfl TL.fin) ?_
   refine DR.stepV [_, _, _, _, _, _, _, _, _] rfl [(19, _, some 7)] rfl rfl ⟨⟨rfl, rfl, rfl⟩, trivial⟩ (fun ext => TL.move hF rfl rfl TL.fin) ?_
   refine DR.stepV [_, _, _, _, _, _, _, _, _, _] rfl [(5, _, none), (20, _, some 8)] rfl rfl ⟨⟨rfl, by kernel_rfl⟩, ⟨rfl, rfl, rfl⟩, trivial⟩ (fun ext => TL.on rfl rfl rfl (by simp; omega) <| TL.move hF rfl rfl TL.fin) ?_
   refine DR.stepV [_, _, _, _, _, _, _, _, _, _, _] rfl [(21, _, some 9), (20, _, some 8)] rfl rfl ⟨⟨rfl, rfl, rfl⟩, ⟨rfl, rfl, rfl⟩, trivial⟩ (fun ext => TL.on rfl rfl rfl (by simp; omega) <| TL.bin hF rfl rfl rfl rfl TL.fin) ?_
   refine DR.stepV [_, _, _, _, _, _, _, _, _, _, _, _] rfl [(22, _, some 10), (20, _, some 8)] rfl rfl ⟨⟨rfl, rfl, rfl⟩, ⟨rfl, rfl, rfl⟩, trivial⟩ (fun ext => TL.on rfl rfl rfl (by simp; omega) <| TL.move hF rfl rfl TL.fin) ?_
   refine DR.stepV [_, _, _, _, _, _, _, _, _, _, _, _, _] rfl [(0, _, none), (23, _, some 11)] rfl rfl ⟨⟨rfl, by kernel_rfl⟩, ⟨rfl, rfl, rfl⟩, trivial⟩ (fun ext => TL.on rfl rfl rfl (decide_eq_true (by omega)) <| TL.move hF rfl rfl TL.fin) ?_
   refine DR.stepV [_, _, _, _, _, _, _, _, _, _, _, _, _, _] rfl [(5, _, none), (23, _, some 11)] rfl rfl ⟨⟨rfl, by kernel_rfl⟩, ⟨rfl, rfl, rfl⟩, trivial⟩ (fun ext => TL.on rfl rfl rfl (decide_eq_true (by omega)) <| TL.move hF rfl rfl TL.fin) ?_
   refine DR.stepV [_, _, _, _, _, _, _, _, _, _, _, _, _, _, _] rfl [(24, _, some 12), (25, _, some 13), (23, _, some 11)] rfl rfl ⟨⟨rfl, rfl, rfl⟩, ⟨rfl, rfl, rfl⟩, ⟨rfl, rfl, rfl⟩, trivial⟩ (fun ext => TL.on rfl rfl rfl (decide_eq_true (by omega)) <| TL.indexAddr hF rfl rfl (hx.adi (i := i) (by simpa using hil)) (by omega) (by omega) rfl TL.fin) ?_
   refine DR.stepV [_, _, _, _, _, _, _, _, _, _, _, _, _, _, _, _] rfl [(26, _, some 14), (23, _, some 11)] rfl rfl ⟨⟨rfl, rfl, rfl⟩, ⟨rfl, rfl, rfl⟩, trivial⟩ (fun ext => TL.on rfl rfl rfl (decide_eq_true (by omega)) <| TL.load hF rfl (hx.ro.int (i := i) hil) rfl TL.fin) ?_
   refine DR.stepV [_, _, _, _, _, _, _, _, _, _, _, _, _, _, _, _, _] rfl [(0, _, none), (23, _, some 11)] rfl rfl ⟨⟨rfl, by kernel_rfl⟩, ⟨rfl, rfl, rfl⟩, trivial⟩ (fun ext => TL.on rfl rfl rfl (decide_eq_true (by omega)) <| TL.move hF rfl rfl TL.fin) ?_
   refine DR.stepV [_, _, _, _, _, _, _, _, _, _, _, _, _, _, _, _, _, _] rfl [(5, _, none), (23, _, some 11)] rfl rfl ⟨⟨rfl, by kernel_rfl⟩, ⟨rfl, rfl, rfl⟩, trivial⟩ (fun ext => TL.on rfl rfl rfl (decide_eq_true (by omega)) <| TL.move hF rfl rfl TL.fin) ?_
   refine DR.stepV [_, _, _, _, _, _, _, _, _, _, _, _, _, _, _, _, _, _, _] rfl [(29, _, some 17), (23, _, some 11)] rfl rfl ⟨⟨rfl, rfl, rfl⟩, ⟨rfl, rfl, rfl⟩, trivial⟩ (fun ext => TL.on rfl rfl rfl (decide_eq_true (by omega)) <| TL.sub hF rfl rfl (by omega) (by omega) rfl TL.fin) ?_
   refine DR.stepV [_, _, _, _, _, _, _, _, _, _, _, _, _, _, _, _, _, _, _, _] rfl [(28, _, some 16), (30, _, some 18), (23, _, some 11)] rfl rfl ⟨⟨rfl, rfl, rfl⟩, ⟨rfl, rfl, rfl⟩, ⟨rfl, rfl, rfl⟩, trivial⟩ (fun ext => TL.on rfl rfl rfl (decide_eq_true (by omega)) <| TL.indexAddr hF rfl rfl (hx.adi (i := ((i : Int) - 1).toNat) (by simp; omega)) (by omega) (by omega) rfl TL.fin) ?_
   refine DR.stepV [_, _, _, _, _, _, _, _, _, _, _, _, _, _, _, _, _, _, _, _, _] rfl [(31, _, some 19), (23, _, some 11)] rfl rfl ⟨⟨rfl, rfl, rfl⟩, ⟨rfl, rfl, rfl⟩, trivial⟩ (fun ext => TL.on rfl rfl rfl (decide_eq_true (by omega)) <| TL.load hF rfl (hx.ro.int (i := ((i : Int) - 1).toNat) (by omega)) rfl TL.fin) ?_
   refine DR.done [(32, _), (31, _), (30, _), (29, _), (28, _), (27, _), (26, _), (25, _), (24, _), (23, _), (22, _), (21, _), (20, _), (19, _), (18, _), (17, _), (16, _), (15, _), (14, _), (13, _), (12, _)] [_, _, _] mixed (by kernel_rfl) (by kernel_rfl) (by kernel_rfl) rfl rfl ?_
   refine TL.on rfl rfl rfl (decide_eq_true (by omega)) ?_
   refine TL.bin hF rfl rfl rfl rfl ?_
   refine TL.on rfl rfl rfl (by simp; omega) ?_
   refine TL.pickT hF rfl (decide_eq_true (by omega)) rfl rfl ?_
   refine TL.pickF hF rfl (by simp; omega) rfl rfl ?_
   refine TL.nil ?_
   refine TQ.then_n ?_
   refine T.cond_f rfl (by first | rfl | exact decide_eq_false (by have h9 := List.pairwise_iff_getElem.1 hu (((i : Int) - 1).toNat) i (by omega) hil (by omega); omega)) ?_
   refine T.skip ?_
   refine TQ.block_n ?_
   refine TQ.then_n ?_
   refine T.region ?_
   refine TL.move hF rfl rfl ?_
   refine TL.add hF rfl rfl (by omega) (by omega) rfl ?_
   refine TL.assign hF rfl rfl ?_
   refine TL.nil ?_
   refine TQ.round (i + 1) (by omega) (by omega) ⟨rfl, rfl, rfl, rfl, trivial⟩ rfl
 ·refine T.exit ?_
  refine TQ.then_x ?_
  refine TQ.then_x ?_
  refine TQ.block_x ?_
  refine TQ.then_n ?_
  refine T.seq ?_
  refine T.region ?_
  refine TL.assign hF rfl rfl ?_
  refine TL.nil ?_
  refine TQ.then_n ?_
  refine T.ret ?_
  refine TQ.rets [4] _ rfl rfl rfl ?_
  exact ⟨rfl, rfl⟩
end Go.Proofs.YtdiacobmhkmljaaDoor
/- The theorem of there and back, walked. -/
namespace Go.Proofs.YtdiacobmhkmljaaDoor
open Go.Sl
variable {S : Nat → Prop} {w0 : World} {η : Heap}
theorem rnd3 {l : List RH} {r s t : Rnd} (h : l.map (·.r) = [r, s, t]) : ∃ x y z, l = [x, y, z] ∧ x.r = r ∧ y.r = s ∧ z.r = t := by
 match l, h with
 | [x, y, z], h => simp only [List.map_cons, List.map_nil, List.cons.injEq, and_true] at h; exact ⟨x, y, z, rfl, h.1, h.2.1, h.2.2⟩
theorem back_okE {cells : List Int} (h : ∀ n ∈ cells, isW n = true) : ∀ x ∈ backL cells, okEdit cells.length x = true := by
 intro x hx
 obtain ⟨i, hi, rfl⟩ := List.mem_iff_getElem.1 hx
 have hi' := hi
 rw [backL_len] at hi'
 rw [backL_get cells hi', okEdit_iff]
 exact ⟨by dsimp only; omega, by dsimp only; omega, h _ (List.getElem_mem hi')⟩
structure BS where
 i : Nat
 la : Option Addr
 lc : Nat
 lg : Seg
set_option maxHeartbeats 8000000 in
theorem TraceBack_fn {a b : Option Addr} {by' l : List Int} {c d : Nat} (hT : Tabs S w0) (hby : Row S w0 [] a (ints by')) (hbyl : by'.length < 9223372036854775808) (hbyb : ∀ x ∈ by', I64 x) (hl : Row S w0 [] b (ints l)) (hll : l.length < 9223372036854775808) (hlb : ∀ x ∈ l, I64 x) :
  Rt Tryd.prog 5 [.slice a by'.length c, .slice b l.length d].toArray S w0 η (fun v _ => v = .bool true) := by
 have hF := open_wide
 refine Rt.of (fn := Tryd.f5) Tryd.func5 rfl rfl ?_
 refine T.seq ?_
 refine T.region ?_
 refine TL.assign hF rfl rfl ?_
 refine TL.nil ?_
 refine TQ.then_n ?_
 refine T.seq ?_
 refine T.region ?_
 refine TL.move hF rfl rfl ?_
 have hb := Back.refl S w0
 refine TL.call hF (Made_fn hby hbyl hbyb) rfl rfl ?_
 rintro _ _ ⟨fa, fc, fl, ca, cc, cells, top, segs, rfl, hfs, hcs, hask, hc8, rfl⟩
 obtain ⟨hsc, hk⟩ := scn_of hask
 have hc1 := hsc.c1
 have hcw : ∀ n ∈ cells, isW n = true := (okCells_iff.1 (asked_01 hask).2.1).2
 have hfl : fl.length < 9223372036854775808 := by have := hsc.many; rw [List.length_map] at this; omega
 refine TL.freeze (segs) rfl (fun S1 w1 hz1 => ?_)
 replace hb := hb.frz hz1
 replace hT := hT.old hz1
 replace hl := hl.old hz1
 replace hfs := hfs.frz hz1
 replace hcs := hcs.frz hz1
 refine TL.move hF rfl rfl ?_
 refine TL.extract hF rfl rfl rfl ?_
 refine TL.extract hF rfl rfl rfl ?_
 refine TL.extract hF rfl rfl rfl ?_
 refine TL.alloc hF rfl (fun b7 => ?_)
 refine TL.assign hF rfl rfl ?_
 refine TL.assign hF rfl rfl ?_
 refine TL.storeAs hF (kC top) (kC top) 0 (cs := [.int .i64 0, .int .i64 0]) rfl rfl rfl rfl (kC1 _) (Nat.le_refl 2) rfl ?_
 refine TL.nil ?_
 refine TQ.then_n ?_
 refine T.seq ?_
 refine T.region ?_
 refine TL.move hF rfl rfl ?_
 refine TL.move hF rfl rfl ?_
 refine TL.len hF rfl rfl ?_
 refine TL.call hF (edits_fn (m := cells.length) hl hll hlb hc1 (by omega)) rfl rfl ?_
 rintro _ _ ⟨ra, rc, ps, segs, rfl, hgl, hp6, hrk, hrc, rfl⟩
 refine TL.freeze (segs) rfl (fun S2 w2 hz2 => ?_)
 replace hb := hb.frz hz2
 replace hT := hT.old hz2
 replace hl := hl.old hz2
 replace hfs := hfs.old hz2
 replace hcs := hcs.old hz2
 replace hgl := hgl.frz hz2
 refine TL.assign hF rfl rfl ?_
 refine TL.nil ?_
 refine TQ.then_n ?_
 refine T.seq ?_
 refine T.seq ?_
 refine T.region ?_
 refine TL.move hF rfl rfl ?_
 refine TL.len hF rfl rfl ?_
 refine TL.bin hF rfl rfl rfl rfl ?_
 refine TL.nil ?_
 refine TQ.then_n ?_
 first | refine T.cond_d rfl (fun ht32 => ?_) (fun ht32 => ?_) | refine T.cond _ rfl (fun ht32 => ?_) (fun ht32 => ?_)
 ·refine T.seq ?_
  refine T.region ?_
  refine TL.call hF (traced_law hT) rfl rfl ?_
  rintro _ _ rfl
  refine TL.assign hF rfl rfl ?_
  refine TL.nil ?_
  refine TQ.then_n ?_
  refine T.ret ?_
  refine TQ.then_r ?_
  exact TQ.retsF [4] _ hb rfl rfl rfl (fun _ => rfl)
 ·refine T.skip ?_
  refine TQ.then_n ?_
  refine T.seq ?_
  refine T.region ?_
  refine TL.buildSlice hF rfl (cs := #[]) (e := 60) (fun w => by kernel_rfl) rfl (fun b34 => ?_)
  refine TL.assign hF rfl rfl ?_
  refine TL.nil ?_
  refine TQ.then_n ?_
  refine T.seq ?_
  refine T.seq ?_
  refine T.region ?_
  refine TL.assign hF rfl rfl ?_
  refine TL.nil ?_
  refine TQ.then_n ?_
  refine T.block ?_
  have hp0 : 0 < ps.length := by have h : ¬ (ps.length : Int) = 0 := ht32; omega
  refine T.loop (ι := BS) (fun s => s.i ≤ cells.length ∧ OSl 60 2 (.slice s.la s.i s.lc) s.i (((backL cells).take s.i).flatMap kC) s.lg) (fun s => [(1, .slice b l.length d), (4, .bool false), (5, .slice fa fl.length fc), (6, .slice ca cells.length cc), (7, ptr b7), (8, .slice ra ps.length rc), (9, .slice s.la s.i s.lc), (10, .int .i64 (s.i : Int))]) (fun s => s.lg :: ([(b7, Obj.cells (kC top).toArray 25 (0, 0))] :: η)) (fun s => cells.length - s.i) ⟨0, some ⟨b34, 0, none⟩, 0, [(b34, Obj.cells #[] 60 (0, 0))]⟩ ⟨Nat.zero_le _, osl_empty⟩ ⟨rfl, rfl, rfl, rfl, rfl, rfl, rfl, rfl, trivial⟩ rfl ?_
  rintro ⟨i, la, lc, lg⟩ ⟨hi, hlo⟩
  dsimp only at hi hlo
  refine T.seq ?_
  refine T.seq ?_
  refine T.region ?_
  refine TL.move hF rfl rfl ?_
  refine TL.move hF rfl rfl ?_
  refine TL.len hF rfl rfl ?_
  refine TL.bin hF rfl rfl rfl rfl ?_
  refine TL.nil ?_
  refine TQ.then_n ?_
  first | refine T.cond_d rfl (fun ht38 => ?_) (fun ht38 => ?_) | refine T.cond _ rfl (fun ht38 => ?_) (fun ht38 => ?_)
  ·refine T.skip ?_
   refine TQ.then_n ?_
   refine T.seq ?_
   refine T.block ?_
   refine T.region ?_
   refine TL.move hF rfl rfl ?_
   refine TL.move hF rfl rfl ?_
   refine TL.move hF rfl rfl ?_
   refine TL.move hF rfl rfl ?_
   have hil : i < cells.length := by have h : (i : Int) < (cells.length : Int) := ht38; omega
   refine TL.indexAddr hF rfl rfl (hcs.adi (i := i) (by simpa using hil)) (by dsimp only; omega) (by dsimp only; omega) rfl ?_
   refine TL.load hF rfl (hcs.ro.int (i := i) hil) rfl ?_
   refine TL.build hF rfl (r := kV ((i : Int), cells[i])) (fun w => by kernel_rfl) rfl ?_
   refine TL.buildSlice hF rfl (cs := (kC ((i : Int), cells[i])).toArray) (e := 60) (fun w => by kernel_rfl) rfl (fun bq => ?_)
   refine TL.append hF 1 rfl rfl rfl hlo (row_own (cs := kC ((i : Int), cells[i])) (e := 60) (by simp)).src rfl rfl (kC1 _) (by omega) (by omega) rfl (fun pa pc pg ph => ?_)
   have htk : (backL cells).take (i + 1) = (backL cells).take i ++ [((i : Int), cells[i])] := by rw [List.take_succ_eq_append_getElem (by rw [backL_len]; exact hil), backL_get cells hil]
   rw [flat_snoc, ← htk] at ph
   refine TL.assign hF rfl rfl ?_
   refine TL.nil ?_
   refine TQ.block_n ?_
   refine TQ.then_n ?_
   refine T.region ?_
   refine TL.move hF rfl rfl ?_
   refine TL.add hF rfl rfl (by dsimp only; omega) (by dsimp only; omega) rfl ?_
   refine TL.assign hF rfl rfl ?_
   refine TL.nil ?_
   refine TQ.pop ?_
   refine TQ.round ⟨i + 1, pa, pc, pg⟩ ⟨by dsimp only; omega, ph⟩ (by dsimp only; omega) ⟨rfl, rfl, rfl, rfl, rfl, rfl, rfl, rfl, trivial⟩ rfl
  ·refine T.exit ?_
   refine TQ.then_x ?_
   refine TQ.then_x ?_
   refine TQ.block_x ?_
   refine TQ.then_n ?_
   refine T.seq ?_
   have hie : i = cells.length := by have h : ¬ (i : Int) < (cells.length : Int) := ht38; omega
   subst hie
   rw [List.take_of_length_le (by rw [backL_len]; omega)] at hlo
   have hbk : Row S2 w2 [lg] la ((backL cells).flatMap kC) := OSl.row hlo (by simp)
   refine T.freeze ([lg]) rfl (fun S3 w3 hz3 => ?_)
   replace hb := hb.frz hz3
   replace hT := hT.old hz3
   replace hl := hl.old hz3
   replace hfs := hfs.old hz3
   replace hcs := hcs.old hz3
   replace hgl := hgl.old hz3
   replace hbk := hbk.frz hz3
   have hr0 := hrk _ (List.getElem_mem hp0)
   have hpsx : ∀ p ∈ ([ps[0], (la, backL cells, lc), (none, [], 0)] : List EH), p.2.1.length ≤ 30 ∧ ∀ x ∈ p.2.1, okEdit cells.length x = true := by
    intro p hp
    simp only [List.mem_cons, List.not_mem_nil, or_false] at hp
    rcases hp with rfl | rfl | rfl
    ·exact ⟨by have := hr0.1; omega, hr0.2⟩
    ·exact ⟨by dsimp only; rw [backL_len]; omega, back_okE hcw⟩
    ·exact ⟨by simp, by simp⟩
   have hbk2 : editS (editS cells ps[0].2.1) (backL cells) = cells := back_ok (editS_len _ _)
   have hask2 : askedS (fl.map TE.ex) (editS cells ps[0].2.1) top = 0 := asked_edit hask fun x hx => (okEdit_iff.1 (hr0.2 x hx)).2.2
   obtain ⟨ta, wa, lna⟩ := tra_of hask
   obtain ⟨tb, wb, lnb⟩ := tra_of hask2
   have hpl : playS (fl.map TE.ex) cells top (erounds ([ps[0], (la, backL cells, lc), (none, [], 0)] : List EH)) = ([againstS (traceS (fl.map TE.ex) cells top) (traceS (fl.map TE.ex) (editS cells ps[0].2.1) top) (callsS (fl.map TE.ex) (editS cells ps[0].2.1) top).2, againstS (traceS (fl.map TE.ex) (editS cells ps[0].2.1) top) (traceS (fl.map TE.ex) cells top) (callsS (fl.map TE.ex) cells top).2, againstS (traceS (fl.map TE.ex) cells top) (traceS (fl.map TE.ex) cells top) (callsS (fl.map TE.ex) cells top).2], 0) := by
    rw [play_made hask (by simp) hpsx]
    simp only [erounds, List.map_cons, List.map_nil, roundsS, hbk2]
    rfl
   refine T.drawH 13 mixed ?_
   refine DH.pure (i := 0) [(5, _, none)] rfl rfl rfl rfl ⟨⟨rfl, by kernel_rfl⟩, trivial⟩ (fun _ ext => TL.move hF rfl rfl TL.fin) ?_
   refine DH.pure (i := 1) [(6, _, none)] rfl rfl rfl rfl ⟨⟨rfl, by kernel_rfl⟩, trivial⟩ (fun _ ext => TL.move hF rfl rfl TL.fin) ?_
   refine DH.read (i := 2) [(7, _, none)] rfl rfl rfl rfl ⟨⟨rfl, by kernel_rfl⟩, trivial⟩ (fun ext => TL.loadA hF (kC top) rfl rfl (own_listM (b := b7) (cs := kC top) (e := 25) (fz := (0, 0)) (by simp)) rfl TL.fin) ?_
   refine DH.pure (i := 3) [(8, _, none)] rfl rfl rfl rfl ⟨⟨rfl, by kernel_rfl⟩, trivial⟩ (fun _ ext => TL.move hF rfl rfl TL.fin) ?_
   refine DH.pure (i := 4) [(54, _, some 3)] rfl rfl rfl rfl ⟨⟨rfl, rfl, rfl⟩, trivial⟩ (fun _ ext => TL.indexAddr hF rfl rfl (hgl.ad (i := 0) hp0) (by decide) (by omega) rfl TL.fin) ?_
   refine DH.read (i := 5) [(55, _, some 4)] rfl rfl rfl rfl ⟨⟨rfl, rfl, rfl⟩, trivial⟩ (fun ext => TL.load hF rfl ((hgl.up (by simp)).at (i := 0) hp0) rfl TL.fin) ?_
   refine DH.pure (i := 6) [(9, _, none)] rfl rfl rfl rfl ⟨⟨rfl, by kernel_rfl⟩, trivial⟩ (fun _ ext => TL.move hF rfl rfl TL.fin) ?_
   refine DH.k1 (by kernel_rfl) (by kernel_rfl) (by kernel_rfl) (by kernel_rfl) (HBK.mk (h := 7) [2] [(56, _, some 5), (57, _, some 6)] rfl rfl rfl ⟨⟨rfl, rfl, rfl⟩, ⟨rfl, rfl, rfl⟩, trivial⟩ (by kernel_rfl) (fun ext => ?_))
   refine TL.buildSlice hF rfl (cs := #[ghc ps[0], .slice la cells.length lc, .slice none 0 0]) (e := 38) (fun w => by kernel_rfl) rfl (fun b58 => ?_)
   refine TL.finK ⟨⟨_, rfl, _, _, [(7, _, none)], rfl, rfl, ⟨⟨rfl, by kernel_rfl⟩, trivial⟩, fun ext => TL.loadA hF (kC top) rfl rfl (own_listM (b := b7) (cs := kC top) (e := 25) (fz := (0, 0)) (by simp)) rfl TL.fin⟩, trivial⟩ ?_
   refine DH.heavy 8 [(51, _, some 0), (52, _, some 1), (53, _, some 2), (58, _, some 7)] (by kernel_rfl) (by kernel_rfl) (by kernel_rfl) (by kernel_rfl) rfl rfl rfl rfl ⟨⟨rfl, rfl, rfl⟩, ⟨rfl, rfl, rfl⟩, ⟨rfl, rfl, rfl⟩, ⟨rfl, rfl, rfl⟩, trivial⟩ (by kernel_rfl) (fun ext => ?_)
   have hg58 : GL kC S3 w3 [[(b58, Obj.cells #[ghc ps[0], .slice la cells.length lc, .slice none 0 0] 38 (0, 0))]] (some ⟨b58, 0, none⟩) ([ps[0], (la, backL cells, lc), (none, [], 0)] : List EH) := ⟨by
    have h := row_own (S := S3) (w0 := w3) (b := b58) (cs := [ghc ps[0], .slice la cells.length lc, .slice none 0 0]) (e := 38) (η := [[(b58, Obj.cells #[ghc ps[0], .slice la cells.length lc, .slice none 0 0] 38 (0, 0))]]) (by simp)
    simpa [ghc, backL_len] using h, fun p hp => by
    simp only [List.mem_cons, List.not_mem_nil, or_false] at hp
    rcases hp with rfl | rfl | rfl
    ·exact (hgl.it hp0).up (by simp)
    ·exact hbk.up (by simp)
    ·exact Row.none⟩
   refine TL.call hF (Play_fr (η := [(b7, Obj.cells (kC top).toArray 25 (0, 0))] :: η) (fc := fc) (cc := cc) (top := top) (cells := cells) (rc := 3) [[(b58, Obj.cells #[ghc ps[0], .slice la cells.length lc, .slice none 0 0] 38 (0, 0))]] hT hfs hfl hcs (by omega) hg58 (by simp) (fun p hp => by have := (hpsx p hp).1; omega)) rfl rfl ?_
   rintro _ _ ⟨aa, ac, lr, segp, rfl, hlr, hla, hlac, rfl⟩
   rw [hpl] at hlr ⊢
   dsimp only at hlr
   obtain ⟨x, y, z, rfl, hx, hy, hz⟩ := rnd3 hlr
   refine TL.finD ?_
   refine DH.pure (i := 9) [(59, _, some 8)] rfl rfl rfl rfl ⟨⟨rfl, rfl, rfl⟩, trivial⟩ (fun _ ext => TL.move hF rfl rfl TL.fin) ?_
   refine DH.pure (i := 10) [(50, _, some 9)] rfl rfl rfl rfl ⟨⟨rfl, rfl, rfl⟩, trivial⟩ (fun _ ext => TL.extract hF rfl rfl rfl TL.fin) ?_
   refine DH.pure (i := 11) [(50, _, some 9)] rfl rfl rfl rfl ⟨⟨rfl, rfl, rfl⟩, trivial⟩ (fun _ ext => TL.extract hF rfl rfl rfl TL.fin) ?_
   refine DH.pure (i := 12) [(60, _, some 10)] rfl rfl rfl rfl ⟨⟨rfl, rfl, rfl⟩, trivial⟩ (fun _ ext => TL.assign hF rfl rfl TL.fin) ?_
   refine DH.done [(11, _), (61, _), (60, _), (50, _), (59, _), (58, _), (57, _), (56, _), (55, _), (54, _), (53, _), (52, _), (51, _)] [_] (by kernel_rfl) (by kernel_rfl) (by kernel_rfl) (by kernel_rfl) rfl rfl ?_
   refine TL.assign hF rfl rfl ?_
   refine TL.nil ?_
   refine TQ.then_n ?_
   refine T.seq ?_
   refine T.region ?_
   refine TL.move hF rfl rfl ?_
   refine TL.move hF rfl rfl ?_
   refine TL.freeze (segp) rfl (fun S4 w4 hz4 => ?_)
   replace hb := hb.frz hz4
   replace hT := hT.old hz4
   replace hl := hl.old hz4
   replace hfs := hfs.old hz4
   replace hcs := hcs.old hz4
   replace hgl := hgl.old hz4
   replace hbk := hbk.old hz4
   replace hla := hla.frz hz4
   refine TL.loadA hF (kC top) rfl rfl (own_list (i := 0) (cs := kC top) rfl) rfl ?_
   have q1 := Run_fn (η := [(b7, Obj.cells (kC top).toArray 25 (0, 0))] :: η) (fc := fc) (top := top) (cells := cells) (cc := cc) hT hfs hfl hcs (by omega)
   rw [run_made hask] at q1
   refine TL.call hF q1 rfl rfl ?_
   rintro _ _ ⟨oa, oc, lo, sego, rfl, hlo2, hlon, _, rfl⟩
   dsimp only at hlo2
   refine TL.freeze (sego) rfl (fun S5 w5 hz5 => ?_)
   replace hb := hb.frz hz5
   replace hT := hT.old hz5
   replace hl := hl.old hz5
   replace hfs := hfs.old hz5
   replace hcs := hcs.old hz5
   replace hgl := hgl.old hz5
   replace hbk := hbk.old hz5
   replace hla := hla.old hz5
   replace hlon := hlon.frz hz5
   have hlol : lo.length = (traceS (fl.map TE.ex) cells top).length := by have := congrArg List.length hlo2; rw [nds_len] at this; exact this
   refine TL.move hF rfl rfl ?_
   refine TL.extract hF rfl rfl rfl ?_
   refine TL.extract hF rfl rfl rfl ?_
   refine TL.assign hF rfl rfl ?_
   refine TL.assign hF rfl rfl ?_
   refine TL.nil ?_
   refine TQ.then_n ?_
   refine T.seq ?_
   refine T.region ?_
   refine TL.move hF rfl rfl ?_
   refine TL.loadA hF (kC top) rfl rfl (own_list (i := 0) (cs := kC top) rfl) rfl ?_
   refine TL.call hF (node_fn (k := top) (c := oc) hlon (by omega)) rfl rfl ?_
   rintro _ _ ⟨wh, hb', rfl, hwh, rfl⟩
   obtain rfl : hb' = true := by rw [hwh.has, hlo2]; exact ta.tops
   have hww : wh.nd.word = (callsS (fl.map TE.ex) cells top).2 := by
    obtain ⟨q, h1, h2⟩ := ta.word
    have h3 := (hwh.1 rfl).2
    rw [hlo2, h1] at h3
    rw [← Option.some.inj h3, h2, wa]
   refine TL.move hF rfl rfl ?_
   refine TL.extract hF rfl rfl rfl ?_
   refine TL.extract hF rfl rfl rfl ?_
   refine TL.alloc hF rfl (fun b15 => ?_)
   refine TL.storeAs hF (nhC wh) (nhC wh) 0 (cs := [.int .i64 0, .int .i64 0, .int .i64 0, .slice none 0 0]) rfl rfl rfl rfl (nhC1 _) (Nat.le_refl 4) rfl ?_
   refine TL.assign hF rfl rfl ?_
   refine TL.nil ?_
   refine TQ.then_n ?_
   refine T.seq ?_
   refine T.seq ?_
   refine T.region ?_
   refine TL.move hF rfl rfl ?_
   refine TL.bin hF rfl rfl rfl rfl ?_
   refine TL.move hF rfl rfl ?_
   refine TL.on rfl rfl rfl rfl ?_
   refine TL.move hF rfl rfl ?_
   refine TL.on rfl rfl rfl rfl ?_
   refine TL.bin hF rfl rfl rfl rfl ?_
   refine TL.pickF hF rfl rfl rfl rfl ?_
   refine TL.move hF rfl rfl ?_
   refine TL.on rfl rfl rfl rfl ?_
   refine TL.move hF rfl rfl ?_
   refine TL.on rfl rfl rfl rfl ?_
   refine TL.not hF rfl rfl ?_
   refine TL.pickF hF rfl rfl rfl rfl ?_
   refine TL.move hF rfl rfl ?_
   refine TL.on rfl rfl rfl rfl ?_
   refine TL.move hF rfl rfl ?_
   refine TL.on rfl rfl rfl rfl ?_
   refine TL.len hF rfl rfl ?_
   refine TL.on rfl rfl rfl rfl ?_
   refine TL.bin hF rfl rfl rfl rfl ?_
   refine TL.pickF hF rfl rfl rfl rfl ?_
   refine TL.nil ?_
   refine TQ.then_n ?_
   refine T.cond_f rfl (by first | rfl | simp) ?_
   refine T.skip ?_
   refine TQ.then_n ?_
   refine T.seq ?_
   have hm1 := hla.item x (by simp)
   have hm2 := hla.item y (by simp)
   have hm3 := hla.item z (by simp)
   have e1 : y.r.word = wh.nd.word := by rw [hy, hww]; rfl
   have e2 : z.r.word = wh.nd.word := by rw [hz, hww]; rfl
   have e3 : x.r.new = y.r.dropped := by rw [hx, hy]; rfl
   have e4 : x.r.dropped = y.r.new := by rw [hx, hy]; rfl
   have e5 : x.r.again = y.r.again := by rw [hx, hy]; exact again_both ta.up tb.up
   have e6 : x.r.kept = y.r.kept := by rw [hx, hy]; exact kept_both ta.up tb.up
   have hzz := hz
   rw [against_self _ ta.up] at hzz
   have e7 : z.r.new = [] := by rw [hzz]
   have e8 : z.r.again = [] := by rw [hzz]
   have e9 : z.r.dropped = [] := by rw [hzz]
   have e10 : z.r.kept.length = lo.length := by rw [hzz, hlol]; simp [keysN]
   have lx : x.r.again.length + x.r.new.length + x.r.kept.length + x.r.dropped.length ≤ 10000 := by
    rw [hx]; unfold againstS; simp only [keysN, List.length_map]
    have f1 := List.length_filter_le (fun x => !hasN (traceS (fl.map TE.ex) cells top) x.key) (traceS (fl.map TE.ex) (editS cells ps[0].2.1) top)
    have f2 := List.length_filter_le (againB (traceS (fl.map TE.ex) cells top)) (traceS (fl.map TE.ex) (editS cells ps[0].2.1) top)
    have f3 := List.length_filter_le (fun x => !hasN (traceS (fl.map TE.ex) (editS cells ps[0].2.1) top) x.key) (traceS (fl.map TE.ex) cells top)
    have f4 := List.length_filter_le (keptB (traceS (fl.map TE.ex) cells top)) (traceS (fl.map TE.ex) (editS cells ps[0].2.1) top)
    omega
   refine T.drawH 14 mixed ?_
   refine DH.pure (i := 0) [(11, _, none)] rfl rfl rfl rfl ⟨⟨rfl, by kernel_rfl⟩, trivial⟩ (fun _ ext => TL.move hF rfl rfl TL.fin) ?_
   refine DH.pure (i := 1) [(90, _, some 0)] rfl rfl rfl rfl ⟨⟨rfl, rfl, rfl⟩, trivial⟩ (fun _ ext => TL.indexAddr hF rfl rfl (hla.ad (i := 0) (by simp)) (by decide) (by simp) rfl TL.fin) ?_
   refine DH.read (i := 2) [(91, _, some 1)] rfl rfl rfl rfl ⟨⟨rfl, rfl, rfl⟩, trivial⟩ (fun ext => TL.loadA hF (rhC x) rfl rfl (fun j v hj => (hla.atA (i := 0) (by simp) j v hj).up (by simp)) rfl TL.fin) ?_
   refine DH.pure (i := 3) [(11, _, none)] rfl rfl rfl rfl ⟨⟨rfl, by kernel_rfl⟩, trivial⟩ (fun _ ext => TL.move hF rfl rfl TL.fin) ?_
   refine DH.pure (i := 4) [(93, _, some 3)] rfl rfl rfl rfl ⟨⟨rfl, rfl, rfl⟩, trivial⟩ (fun _ ext => TL.indexAddr hF rfl rfl (hla.ad (i := 1) (by simp)) (by decide) (by simp) rfl TL.fin) ?_
   refine DH.read (i := 5) [(94, _, some 4)] rfl rfl rfl rfl ⟨⟨rfl, rfl, rfl⟩, trivial⟩ (fun ext => TL.loadA hF (rhC y) rfl rfl (fun j v hj => (hla.atA (i := 1) (by simp) j v hj).up (by simp)) rfl TL.fin) ?_
   refine DH.pure (i := 6) [(11, _, none)] rfl rfl rfl rfl ⟨⟨rfl, by kernel_rfl⟩, trivial⟩ (fun _ ext => TL.move hF rfl rfl TL.fin) ?_
   refine DH.pure (i := 7) [(96, _, some 6)] rfl rfl rfl rfl ⟨⟨rfl, rfl, rfl⟩, trivial⟩ (fun _ ext => TL.indexAddr hF rfl rfl (hla.ad (i := 2) (by simp)) (by decide) (by simp) rfl TL.fin) ?_
   refine DH.read (i := 8) [(97, _, some 7)] rfl rfl rfl rfl ⟨⟨rfl, rfl, rfl⟩, trivial⟩ (fun ext => TL.loadA hF (rhC z) rfl rfl (fun j v hj => (hla.atA (i := 2) (by simp) j v hj).up (by simp)) rfl TL.fin) ?_
   refine DH.k3 (by kernel_rfl) (by kernel_rfl) (by kernel_rfl) (by kernel_rfl) (HBK.mk (h := 9) [2, 5, 8] [] rfl rfl rfl trivial (by kernel_rfl) (fun ext => ?_)) (HBK.mk (h := 10) [2, 5, 8] [] rfl rfl rfl trivial (by kernel_rfl) (fun ext => ?_)) (HBK.mk (h := 11) [2, 5, 8] [] rfl rfl rfl trivial (by kernel_rfl) (fun ext => ?_))
   ·refine TL.alloc hF rfl (fun b17 => ?_)
    refine TL.finK ⟨⟨_, rfl, _, _, [(91, _, some 1)], rfl, rfl, ⟨⟨rfl, rfl, rfl⟩, trivial⟩, fun ext => TL.loadA hF (rhC x) rfl rfl (fun j v hj => (hla.atA (i := 0) (by simp) j v hj).up (by simp)) rfl TL.fin⟩, ⟨_, rfl, _, _, [(94, _, some 4)], rfl, rfl, ⟨⟨rfl, rfl, rfl⟩, trivial⟩, fun ext => TL.loadA hF (rhC y) rfl rfl (fun j v hj => (hla.atA (i := 1) (by simp) j v hj).up (by simp)) rfl TL.fin⟩, ⟨_, rfl, _, _, [(97, _, some 7)], rfl, rfl, ⟨⟨rfl, rfl, rfl⟩, trivial⟩, fun ext => TL.loadA hF (rhC z) rfl rfl (fun j v hj => (hla.atA (i := 2) (by simp) j v hj).up (by simp)) rfl TL.fin⟩, trivial⟩ ?_
    refine DH.k2 (by kernel_rfl) (by kernel_rfl) (by kernel_rfl) (by kernel_rfl) (HBK.mk (h := 10) [2, 5, 8] [] rfl rfl rfl trivial (by kernel_rfl) (fun ext => ?_)) (HBK.mk (h := 11) [2, 5, 8] [] rfl rfl rfl trivial (by kernel_rfl) (fun ext => ?_))
    ·refine TL.alloc hF rfl (fun b18 => ?_)
     refine TL.finK ⟨⟨_, rfl, _, _, [(91, _, some 1)], rfl, rfl, ⟨⟨rfl, rfl, rfl⟩, trivial⟩, fun ext => TL.loadA hF (rhC x) rfl rfl (fun j v hj => (hla.atA (i := 0) (by simp) j v hj).up (by simp)) rfl TL.fin⟩, ⟨_, rfl, _, _, [(94, _, some 4)], rfl, rfl, ⟨⟨rfl, rfl, rfl⟩, trivial⟩, fun ext => TL.loadA hF (rhC y) rfl rfl (fun j v hj => (hla.atA (i := 1) (by simp) j v hj).up (by simp)) rfl TL.fin⟩, ⟨_, rfl, _, _, [(97, _, some 7)], rfl, rfl, ⟨⟨rfl, rfl, rfl⟩, trivial⟩, fun ext => TL.loadA hF (rhC z) rfl rfl (fun j v hj => (hla.atA (i := 2) (by simp) j v hj).up (by simp)) rfl TL.fin⟩, trivial⟩ ?_
     refine DH.k1 (by kernel_rfl) (by kernel_rfl) (by kernel_rfl) (by kernel_rfl) (HBK.mk (h := 11) [2, 5, 8] [] rfl rfl rfl trivial (by kernel_rfl) (fun ext => ?_))
     refine TL.alloc hF rfl (fun b19 => ?_)
     refine TL.finK ⟨⟨_, rfl, _, _, [(91, _, some 1)], rfl, rfl, ⟨⟨rfl, rfl, rfl⟩, trivial⟩, fun ext => TL.loadA hF (rhC x) rfl rfl (fun j v hj => (hla.atA (i := 0) (by simp) j v hj).up (by simp)) rfl TL.fin⟩, ⟨_, rfl, _, _, [(94, _, some 4)], rfl, rfl, ⟨⟨rfl, rfl, rfl⟩, trivial⟩, fun ext => TL.loadA hF (rhC y) rfl rfl (fun j v hj => (hla.atA (i := 1) (by simp) j v hj).up (by simp)) rfl TL.fin⟩, ⟨_, rfl, _, _, [(97, _, some 7)], rfl, rfl, ⟨⟨rfl, rfl, rfl⟩, trivial⟩, fun ext => TL.loadA hF (rhC z) rfl rfl (fun j v hj => (hla.atA (i := 2) (by simp) j v hj).up (by simp)) rfl TL.fin⟩, trivial⟩ ?_
     refine DH.k1 (by kernel_rfl) (by kernel_rfl) (by kernel_rfl) (by kernel_rfl) (HBK.mk (h := 12) [5, 8] [(17, _, some 9), (92, _, some 2)] rfl rfl rfl ⟨⟨rfl, rfl, rfl⟩, ⟨rfl, rfl, rfl⟩, trivial⟩ (by kernel_rfl) (fun ext => ?_))
     first | refine TL.storeAs hF (rhC x) (rhC x) 0 (cs := [.int .i64 0, .slice none 0 0, .slice none 0 0, .slice none 0 0, .slice none 0 0]) rfl rfl rfl rfl (rhC1 _) (Nat.le_refl 5) rfl ?_ | refine TL.storeAs hF (rhC x) (rhC x) 1 (cs := [.int .i64 0, .slice none 0 0, .slice none 0 0, .slice none 0 0, .slice none 0 0]) rfl rfl rfl rfl (rhC1 _) (Nat.le_refl 5) rfl ?_ | refine TL.storeAs hF (rhC x) (rhC x) 2 (cs := [.int .i64 0, .slice none 0 0, .slice none 0 0, .slice none 0 0, .slice none 0 0]) rfl rfl rfl rfl (rhC1 _) (Nat.le_refl 5) rfl ?_
     refine TL.finKN ⟨⟨_, rfl, _, _, [(94, _, some 4)], rfl, rfl, ⟨⟨rfl, rfl, rfl⟩, trivial⟩, fun ext => TL.loadA hF (rhC y) rfl rfl (fun j v hj => (hla.atA (i := 1) (by simp) j v hj).up (by simp)) rfl TL.fin⟩, ⟨_, rfl, _, _, [(97, _, some 7)], rfl, rfl, ⟨⟨rfl, rfl, rfl⟩, trivial⟩, fun ext => TL.loadA hF (rhC z) rfl rfl (fun j v hj => (hla.atA (i := 2) (by simp) j v hj).up (by simp)) rfl TL.fin⟩, trivial⟩ ?_
     refine DH.k1 (by kernel_rfl) (by kernel_rfl) (by kernel_rfl) (by kernel_rfl) (HBK.mk (h := 13) [8] [(18, _, some 10), (95, _, some 5)] rfl rfl rfl ⟨⟨rfl, rfl, rfl⟩, ⟨rfl, rfl, rfl⟩, trivial⟩ (by kernel_rfl) (fun ext => ?_))
     first | refine TL.storeAs hF (rhC y) (rhC y) 0 (cs := [.int .i64 0, .slice none 0 0, .slice none 0 0, .slice none 0 0, .slice none 0 0]) rfl rfl rfl rfl (rhC1 _) (Nat.le_refl 5) rfl ?_ | refine TL.storeAs hF (rhC y) (rhC y) 1 (cs := [.int .i64 0, .slice none 0 0, .slice none 0 0, .slice none 0 0, .slice none 0 0]) rfl rfl rfl rfl (rhC1 _) (Nat.le_refl 5) rfl ?_ | refine TL.storeAs hF (rhC y) (rhC y) 2 (cs := [.int .i64 0, .slice none 0 0, .slice none 0 0, .slice none 0 0, .slice none 0 0]) rfl rfl rfl rfl (rhC1 _) (Nat.le_refl 5) rfl ?_
     refine TL.finKN ⟨⟨_, rfl, _, _, [(97, _, some 7)], rfl, rfl, ⟨⟨rfl, rfl, rfl⟩, trivial⟩, fun ext => TL.loadA hF (rhC z) rfl rfl (fun j v hj => (hla.atA (i := 2) (by simp) j v hj).up (by simp)) rfl TL.fin⟩, trivial⟩ ?_
     refine DH.done [(19, _), (18, _), (17, _), (98, _), (97, _), (96, _), (95, _), (94, _), (93, _), (92, _), (91, _), (90, _)] [_] (by kernel_rfl) (by kernel_rfl) (by kernel_rfl) (by kernel_rfl) rfl rfl ?_
     first | refine TL.storeAs hF (rhC z) (rhC z) 0 (cs := [.int .i64 0, .slice none 0 0, .slice none 0 0, .slice none 0 0, .slice none 0 0]) rfl rfl rfl rfl (rhC1 _) (Nat.le_refl 5) rfl ?_ | refine TL.storeAs hF (rhC z) (rhC z) 1 (cs := [.int .i64 0, .slice none 0 0, .slice none 0 0, .slice none 0 0, .slice none 0 0]) rfl rfl rfl rfl (rhC1 _) (Nat.le_refl 5) rfl ?_ | refine TL.storeAs hF (rhC z) (rhC z) 2 (cs := [.int .i64 0, .slice none 0 0, .slice none 0 0, .slice none 0 0, .slice none 0 0]) rfl rfl rfl rfl (rhC1 _) (Nat.le_refl 5) rfl ?_
     refine TL.nil ?_
     refine TQ.then_n ?_
     refine T.seq ?_
     refine T.region ?_
     refine TL.fieldAddr hF rfl rfl ?_
     refine TL.load hF rfl (own_mem (b := b18) (cs := (rhC y).toArray) (e := 48) (fz := (0, 0)) (by simp) rfl) rfl ?_
     refine TL.fieldAddr hF rfl rfl ?_
     refine TL.load hF rfl (own_mem (b := b15) (cs := (nhC wh).toArray) (e := 43) (fz := (0, 0)) (by simp) rfl) rfl ?_
     refine TL.bin hF rfl rfl rfl rfl ?_
     refine TL.move hF rfl rfl ?_
     refine TL.on rfl rfl rfl (decide_eq_true (by rw [e1])) ?_
     refine TL.fieldAddr hF rfl rfl ?_
     refine TL.on rfl rfl rfl (decide_eq_true (by rw [e1])) ?_
     refine TL.load hF rfl (own_mem (b := b19) (cs := (rhC z).toArray) (e := 48) (fz := (0, 0)) (by simp) rfl) rfl ?_
     refine TL.on rfl rfl rfl (decide_eq_true (by rw [e1])) ?_
     refine TL.fieldAddr hF rfl rfl ?_
     refine TL.on rfl rfl rfl (decide_eq_true (by rw [e1])) ?_
     refine TL.load hF rfl (own_mem (b := b15) (cs := (nhC wh).toArray) (e := 43) (fz := (0, 0)) (by simp) rfl) rfl ?_
     refine TL.on rfl rfl rfl (decide_eq_true (by rw [e1])) ?_
     refine TL.bin hF rfl rfl rfl rfl ?_
     refine TL.pickT hF rfl (decide_eq_true (by rw [e1])) rfl rfl ?_
     refine TL.move hF rfl rfl ?_
     refine TL.on rfl rfl rfl (decide_eq_true (by rw [e2])) ?_
     refine TL.fieldAddr hF rfl rfl ?_
     refine TL.on rfl rfl rfl (decide_eq_true (by rw [e2])) ?_
     refine TL.load hF rfl (own_mem (b := b17) (cs := (rhC x).toArray) (e := 48) (fz := (0, 0)) (by simp) rfl) rfl ?_
     refine TL.on rfl rfl rfl (decide_eq_true (by rw [e2])) ?_
     refine TL.fieldAddr hF rfl rfl ?_
     refine TL.on rfl rfl rfl (decide_eq_true (by rw [e2])) ?_
     refine TL.load hF rfl (own_mem (b := b18) (cs := (rhC y).toArray) (e := 48) (fz := (0, 0)) (by simp) rfl) rfl ?_
     refine TL.on rfl rfl rfl (decide_eq_true (by rw [e2])) ?_
     refine TL.callV hF (keysL_fn (Row.ro hm1.r2) (Row.ro hm2.r4) (by omega)) rfl rfl ?_
     refine TL.pickT hF rfl (decide_eq_true (by rw [e2])) rfl rfl ?_
     refine TL.move hF rfl rfl ?_
     refine TL.on rfl rfl rfl (decide_eq_true (by rw [e3])) ?_
     refine TL.fieldAddr hF rfl rfl ?_
     refine TL.on rfl rfl rfl (decide_eq_true (by rw [e3])) ?_
     refine TL.load hF rfl (own_mem (b := b17) (cs := (rhC x).toArray) (e := 48) (fz := (0, 0)) (by simp) rfl) rfl ?_
     refine TL.on rfl rfl rfl (decide_eq_true (by rw [e3])) ?_
     refine TL.fieldAddr hF rfl rfl ?_
     refine TL.on rfl rfl rfl (decide_eq_true (by rw [e3])) ?_
     refine TL.load hF rfl (own_mem (b := b18) (cs := (rhC y).toArray) (e := 48) (fz := (0, 0)) (by simp) rfl) rfl ?_
     refine TL.on rfl rfl rfl (decide_eq_true (by rw [e3])) ?_
     refine TL.callV hF (keysL_fn (Row.ro hm1.r4) (Row.ro hm2.r2) (by omega)) rfl rfl ?_
     refine TL.pickT hF rfl (decide_eq_true (by rw [e3])) rfl rfl ?_
     refine TL.move hF rfl rfl ?_
     refine TL.on rfl rfl rfl (decide_eq_true (by rw [e4])) ?_
     refine TL.fieldAddr hF rfl rfl ?_
     refine TL.on rfl rfl rfl (decide_eq_true (by rw [e4])) ?_
     refine TL.load hF rfl (own_mem (b := b17) (cs := (rhC x).toArray) (e := 48) (fz := (0, 0)) (by simp) rfl) rfl ?_
     refine TL.on rfl rfl rfl (decide_eq_true (by rw [e4])) ?_
     refine TL.fieldAddr hF rfl rfl ?_
     refine TL.on rfl rfl rfl (decide_eq_true (by rw [e4])) ?_
     refine TL.load hF rfl (own_mem (b := b18) (cs := (rhC y).toArray) (e := 48) (fz := (0, 0)) (by simp) rfl) rfl ?_
     refine TL.on rfl rfl rfl (decide_eq_true (by rw [e4])) ?_
     refine TL.callV hF (keysL_fn (Row.ro hm1.r1) (Row.ro hm2.r1) (by omega)) rfl rfl ?_
     refine TL.pickT hF rfl (decide_eq_true (by rw [e4])) rfl rfl ?_
     refine TL.move hF rfl rfl ?_
     refine TL.on rfl rfl rfl (decide_eq_true (by rw [e5])) ?_
     refine TL.fieldAddr hF rfl rfl ?_
     refine TL.on rfl rfl rfl (decide_eq_true (by rw [e5])) ?_
     refine TL.load hF rfl (own_mem (b := b17) (cs := (rhC x).toArray) (e := 48) (fz := (0, 0)) (by simp) rfl) rfl ?_
     refine TL.on rfl rfl rfl (decide_eq_true (by rw [e5])) ?_
     refine TL.fieldAddr hF rfl rfl ?_
     refine TL.on rfl rfl rfl (decide_eq_true (by rw [e5])) ?_
     refine TL.load hF rfl (own_mem (b := b18) (cs := (rhC y).toArray) (e := 48) (fz := (0, 0)) (by simp) rfl) rfl ?_
     refine TL.on rfl rfl rfl (decide_eq_true (by rw [e5])) ?_
     refine TL.callV hF (keysL_fn (Row.ro hm1.r3) (Row.ro hm2.r3) (by omega)) rfl rfl ?_
     refine TL.pickT hF rfl (decide_eq_true (by rw [e5])) rfl rfl ?_
     refine TL.move hF rfl rfl ?_
     refine TL.on rfl rfl rfl (decide_eq_true (by rw [e6])) ?_
     refine TL.fieldAddr hF rfl rfl ?_
     refine TL.on rfl rfl rfl (decide_eq_true (by rw [e6])) ?_
     refine TL.load hF rfl (own_mem (b := b19) (cs := (rhC z).toArray) (e := 48) (fz := (0, 0)) (by simp) rfl) rfl ?_
     refine TL.on rfl rfl rfl (decide_eq_true (by rw [e6])) ?_
     refine TL.len hF rfl rfl ?_
     refine TL.on rfl rfl rfl (decide_eq_true (by rw [e6])) ?_
     refine TL.fieldAddr hF rfl rfl ?_
     refine TL.on rfl rfl rfl (decide_eq_true (by rw [e6])) ?_
     refine TL.load hF rfl (own_mem (b := b19) (cs := (rhC z).toArray) (e := 48) (fz := (0, 0)) (by simp) rfl) rfl ?_
     refine TL.on rfl rfl rfl (decide_eq_true (by rw [e6])) ?_
     refine TL.len hF rfl rfl ?_
     refine TL.on rfl rfl rfl (decide_eq_true (by rw [e6])) ?_
     refine TL.add hF rfl rfl (by rw [e7, e8]; decide) (by rw [e7, e8]; decide) rfl ?_
     refine TL.on rfl rfl rfl (decide_eq_true (by rw [e6])) ?_
     refine TL.fieldAddr hF rfl rfl ?_
     refine TL.on rfl rfl rfl (decide_eq_true (by rw [e6])) ?_
     refine TL.load hF rfl (own_mem (b := b19) (cs := (rhC z).toArray) (e := 48) (fz := (0, 0)) (by simp) rfl) rfl ?_
     refine TL.on rfl rfl rfl (decide_eq_true (by rw [e6])) ?_
     refine TL.len hF rfl rfl ?_
     refine TL.on rfl rfl rfl (decide_eq_true (by rw [e6])) ?_
     refine TL.add hF rfl rfl (by rw [e7, e8, e9]; decide) (by rw [e7, e8, e9]; decide) rfl ?_
     refine TL.on rfl rfl rfl (decide_eq_true (by rw [e6])) ?_
     refine TL.bin hF rfl rfl rfl rfl ?_
     refine TL.pickT hF rfl (decide_eq_true (by rw [e6])) rfl rfl ?_
     refine TL.move hF rfl rfl ?_
     refine TL.on rfl rfl rfl (by rw [e7, e8, e9]; rfl) ?_
     refine TL.fieldAddr hF rfl rfl ?_
     refine TL.on rfl rfl rfl (by rw [e7, e8, e9]; rfl) ?_
     refine TL.load hF rfl (own_mem (b := b19) (cs := (rhC z).toArray) (e := 48) (fz := (0, 0)) (by simp) rfl) rfl ?_
     refine TL.on rfl rfl rfl (by rw [e7, e8, e9]; rfl) ?_
     refine TL.len hF rfl rfl ?_
     refine TL.on rfl rfl rfl (by rw [e7, e8, e9]; rfl) ?_
     refine TL.move hF rfl rfl ?_
     refine TL.on rfl rfl rfl (by rw [e7, e8, e9]; rfl) ?_
     refine TL.len hF rfl rfl ?_
     refine TL.on rfl rfl rfl (by rw [e7, e8, e9]; rfl) ?_
     refine TL.bin hF rfl rfl rfl rfl ?_
     refine TL.pickT hF rfl (by rw [e7, e8, e9]; rfl) rfl rfl ?_
     refine TL.move hF rfl rfl ?_
     refine TL.on rfl rfl rfl (decide_eq_true (by rw [e10])) ?_
     refine TL.call hF (traced_law hT) rfl rfl ?_
     rintro _ _ rfl
     refine TL.pickT hF rfl (decide_eq_true (by rw [e10])) rfl rfl ?_
     refine TL.assign hF rfl rfl ?_
     refine TL.nil ?_
     refine TQ.then_n ?_
     refine T.ret ?_
     exact TQ.retsF [4] _ hb rfl rfl rfl (fun _ => rfl)
    ·refine TL.alloc hF rfl (fun b19 => ?_)
     refine TL.finK ⟨⟨_, rfl, _, _, [(91, _, some 1)], rfl, rfl, ⟨⟨rfl, rfl, rfl⟩, trivial⟩, fun ext => TL.loadA hF (rhC x) rfl rfl (fun j v hj => (hla.atA (i := 0) (by simp) j v hj).up (by simp)) rfl TL.fin⟩, ⟨_, rfl, _, _, [(94, _, some 4)], rfl, rfl, ⟨⟨rfl, rfl, rfl⟩, trivial⟩, fun ext => TL.loadA hF (rhC y) rfl rfl (fun j v hj => (hla.atA (i := 1) (by simp) j v hj).up (by simp)) rfl TL.fin⟩, ⟨_, rfl, _, _, [(97, _, some 7)], rfl, rfl, ⟨⟨rfl, rfl, rfl⟩, trivial⟩, fun ext => TL.loadA hF (rhC z) rfl rfl (fun j v hj => (hla.atA (i := 2) (by simp) j v hj).up (by simp)) rfl TL.fin⟩, trivial⟩ ?_
     refine DH.k1 (by kernel_rfl) (by kernel_rfl) (by kernel_rfl) (by kernel_rfl) (HBK.mk (h := 10) [2, 5, 8] [] rfl rfl rfl trivial (by kernel_rfl) (fun ext => ?_))
     refine TL.alloc hF rfl (fun b18 => ?_)
     refine TL.finK ⟨⟨_, rfl, _, _, [(91, _, some 1)], rfl, rfl, ⟨⟨rfl, rfl, rfl⟩, trivial⟩, fun ext => TL.loadA hF (rhC x) rfl rfl (fun j v hj => (hla.atA (i := 0) (by simp) j v hj).up (by simp)) rfl TL.fin⟩, ⟨_, rfl, _, _, [(94, _, some 4)], rfl, rfl, ⟨⟨rfl, rfl, rfl⟩, trivial⟩, fun ext => TL.loadA hF (rhC y) rfl rfl (fun j v hj => (hla.atA (i := 1) (by simp) j v hj).up (by simp)) rfl TL.fin⟩, ⟨_, rfl, _, _, [(97, _, some 7)], rfl, rfl, ⟨⟨rfl, rfl, rfl⟩, trivial⟩, fun ext => TL.loadA hF (rhC z) rfl rfl (fun j v hj => (hla.atA (i := 2) (by simp) j v hj).up (by simp)) rfl TL.fin⟩, trivial⟩ ?_
     refine DH.k1 (by kernel_rfl) (by kernel_rfl) (by kernel_rfl) (by kernel_rfl) (HBK.mk (h := 12) [5, 8] [(17, _, some 9), (92, _, some 2)] rfl rfl rfl ⟨⟨rfl, rfl, rfl⟩, ⟨rfl, rfl, rfl⟩, trivial⟩ (by kernel_rfl) (fun ext => ?_))
     first | refine TL.storeAs hF (rhC x) (rhC x) 0 (cs := [.int .i64 0, .slice none 0 0, .slice none 0 0, .slice none 0 0, .slice none 0 0]) rfl rfl rfl rfl (rhC1 _) (Nat.le_refl 5) rfl ?_ | refine TL.storeAs hF (rhC x) (rhC x) 1 (cs := [.int .i64 0, .slice none 0 0, .slice none 0 0, .slice none 0 0, .slice none 0 0]) rfl rfl rfl rfl (rhC1 _) (Nat.le_refl 5) rfl ?_ | refine TL.storeAs hF (rhC x) (rhC x) 2 (cs := [.int .i64 0, .slice none 0 0, .slice none 0 0, .slice none 0 0, .slice none 0 0]) rfl rfl rfl rfl (rhC1 _) (Nat.le_refl 5) rfl ?_
     refine TL.finKN ⟨⟨_, rfl, _, _, [(94, _, some 4)], rfl, rfl, ⟨⟨rfl, rfl, rfl⟩, trivial⟩, fun ext => TL.loadA hF (rhC y) rfl rfl (fun j v hj => (hla.atA (i := 1) (by simp) j v hj).up (by simp)) rfl TL.fin⟩, ⟨_, rfl, _, _, [(97, _, some 7)], rfl, rfl, ⟨⟨rfl, rfl, rfl⟩, trivial⟩, fun ext => TL.loadA hF (rhC z) rfl rfl (fun j v hj => (hla.atA (i := 2) (by simp) j v hj).up (by simp)) rfl TL.fin⟩, trivial⟩ ?_
     refine DH.k1 (by kernel_rfl) (by kernel_rfl) (by kernel_rfl) (by kernel_rfl) (HBK.mk (h := 13) [8] [(18, _, some 10), (95, _, some 5)] rfl rfl rfl ⟨⟨rfl, rfl, rfl⟩, ⟨rfl, rfl, rfl⟩, trivial⟩ (by kernel_rfl) (fun ext => ?_))
     first | refine TL.storeAs hF (rhC y) (rhC y) 0 (cs := [.int .i64 0, .slice none 0 0, .slice none 0 0, .slice none 0 0, .slice none 0 0]) rfl rfl rfl rfl (rhC1 _) (Nat.le_refl 5) rfl ?_ | refine TL.storeAs hF (rhC y) (rhC y) 1 (cs := [.int .i64 0, .slice none 0 0, .slice none 0 0, .slice none 0 0, .slice none 0 0]) rfl rfl rfl rfl (rhC1 _) (Nat.le_refl 5) rfl ?_ | refine TL.storeAs hF (rhC y) (rhC y) 2 (cs := [.int .i64 0, .slice none 0 0, .slice none 0 0, .slice none 0 0, .slice none 0 0]) rfl rfl rfl rfl (rhC1 _) (Nat.le_refl 5) rfl ?_
     refine TL.finKN ⟨⟨_, rfl, _, _, [(97, _, some 7)], rfl, rfl, ⟨⟨rfl, rfl, rfl⟩, trivial⟩, fun ext => TL.loadA hF (rhC z) rfl rfl (fun j v hj => (hla.atA (i := 2) (by simp) j v hj).up (by simp)) rfl TL.fin⟩, trivial⟩ ?_
     refine DH.done [(18, _), (19, _), (17, _), (98, _), (97, _), (96, _), (95, _), (94, _), (93, _), (92, _), (91, _), (90, _)] [_] (by kernel_rfl) (by kernel_rfl) (by kernel_rfl) (by kernel_rfl) rfl rfl ?_
     first | refine TL.storeAs hF (rhC z) (rhC z) 0 (cs := [.int .i64 0, .slice none 0 0, .slice none 0 0, .slice none 0 0, .slice none 0 0]) rfl rfl rfl rfl (rhC1 _) (Nat.le_refl 5) rfl ?_ | refine TL.storeAs hF (rhC z) (rhC z) 1 (cs := [.int .i64 0, .slice none 0 0, .slice none 0 0, .slice none 0 0, .slice none 0 0]) rfl rfl rfl rfl (rhC1 _) (Nat.le_refl 5) rfl ?_ | refine TL.storeAs hF (rhC z) (rhC z) 2 (cs := [.int .i64 0, .slice none 0 0, .slice none 0 0, .slice none 0 0, .slice none 0 0]) rfl rfl rfl rfl (rhC1 _) (Nat.le_refl 5) rfl ?_
     refine TL.nil ?_
     refine TQ.then_n ?_
     refine T.seq ?_
     refine T.region ?_
     refine TL.fieldAddr hF rfl rfl ?_
     refine TL.load hF rfl (own_mem (b := b18) (cs := (rhC y).toArray) (e := 48) (fz := (0, 0)) (by simp) rfl) rfl ?_
     refine TL.fieldAddr hF rfl rfl ?_
     refine TL.load hF rfl (own_mem (b := b15) (cs := (nhC wh).toArray) (e := 43) (fz := (0, 0)) (by simp) rfl) rfl ?_
     refine TL.bin hF rfl rfl rfl rfl ?_
     refine TL.move hF rfl rfl ?_
     refine TL.on rfl rfl rfl (decide_eq_true (by rw [e1])) ?_
     refine TL.fieldAddr hF rfl rfl ?_
     refine TL.on rfl rfl rfl (decide_eq_true (by rw [e1])) ?_
     refine TL.load hF rfl (own_mem (b := b19) (cs := (rhC z).toArray) (e := 48) (fz := (0, 0)) (by simp) rfl) rfl ?_
     refine TL.on rfl rfl rfl (decide_eq_true (by rw [e1])) ?_
     refine TL.fieldAddr hF rfl rfl ?_
     refine TL.on rfl rfl rfl (decide_eq_true (by rw [e1])) ?_
     refine TL.load hF rfl (own_mem (b := b15) (cs := (nhC wh).toArray) (e := 43) (fz := (0, 0)) (by simp) rfl) rfl ?_
     refine TL.on rfl rfl rfl (decide_eq_true (by rw [e1])) ?_
     refine TL.bin hF rfl rfl rfl rfl ?_
     refine TL.pickT hF rfl (decide_eq_true (by rw [e1])) rfl rfl ?_
     refine TL.move hF rfl rfl ?_
     refine TL.on rfl rfl rfl (decide_eq_true (by rw [e2])) ?_
     refine TL.fieldAddr hF rfl rfl ?_
     refine TL.on rfl rfl rfl (decide_eq_true (by rw [e2])) ?_
     refine TL.load hF rfl (own_mem (b := b17) (cs := (rhC x).toArray) (e := 48) (fz := (0, 0)) (by simp) rfl) rfl ?_
     refine TL.on rfl rfl rfl (decide_eq_true (by rw [e2])) ?_
     refine TL.fieldAddr hF rfl rfl ?_
     refine TL.on rfl rfl rfl (decide_eq_true (by rw [e2])) ?_
     refine TL.load hF rfl (own_mem (b := b18) (cs := (rhC y).toArray) (e := 48) (fz := (0, 0)) (by simp) rfl) rfl ?_
     refine TL.on rfl rfl rfl (decide_eq_true (by rw [e2])) ?_
     refine TL.callV hF (keysL_fn (Row.ro hm1.r2) (Row.ro hm2.r4) (by omega)) rfl rfl ?_
     refine TL.pickT hF rfl (decide_eq_true (by rw [e2])) rfl rfl ?_
     refine TL.move hF rfl rfl ?_
     refine TL.on rfl rfl rfl (decide_eq_true (by rw [e3])) ?_
     refine TL.fieldAddr hF rfl rfl ?_
     refine TL.on rfl rfl rfl (decide_eq_true (by rw [e3])) ?_
     refine TL.load hF rfl (own_mem (b := b17) (cs := (rhC x).toArray) (e := 48) (fz := (0, 0)) (by simp) rfl) rfl ?_
     refine TL.on rfl rfl rfl (decide_eq_true (by rw [e3])) ?_
     refine TL.fieldAddr hF rfl rfl ?_
     refine TL.on rfl rfl rfl (decide_eq_true (by rw [e3])) ?_
     refine TL.load hF rfl (own_mem (b := b18) (cs := (rhC y).toArray) (e := 48) (fz := (0, 0)) (by simp) rfl) rfl ?_
     refine TL.on rfl rfl rfl (decide_eq_true (by rw [e3])) ?_
     refine TL.callV hF (keysL_fn (Row.ro hm1.r4) (Row.ro hm2.r2) (by omega)) rfl rfl ?_
     refine TL.pickT hF rfl (decide_eq_true (by rw [e3])) rfl rfl ?_
     refine TL.move hF rfl rfl ?_
     refine TL.on rfl rfl rfl (decide_eq_true (by rw [e4])) ?_
     refine TL.fieldAddr hF rfl rfl ?_
     refine TL.on rfl rfl rfl (decide_eq_true (by rw [e4])) ?_
     refine TL.load hF rfl (own_mem (b := b17) (cs := (rhC x).toArray) (e := 48) (fz := (0, 0)) (by simp) rfl) rfl ?_
     refine TL.on rfl rfl rfl (decide_eq_true (by rw [e4])) ?_
     refine TL.fieldAddr hF rfl rfl ?_
     refine TL.on rfl rfl rfl (decide_eq_true (by rw [e4])) ?_
     refine TL.load hF rfl (own_mem (b := b18) (cs := (rhC y).toArray) (e := 48) (fz := (0, 0)) (by simp) rfl) rfl ?_
     refine TL.on rfl rfl rfl (decide_eq_true (by rw [e4])) ?_
     refine TL.callV hF (keysL_fn (Row.ro hm1.r1) (Row.ro hm2.r1) (by omega)) rfl rfl ?_
     refine TL.pickT hF rfl (decide_eq_true (by rw [e4])) rfl rfl ?_
     refine TL.move hF rfl rfl ?_
     refine TL.on rfl rfl rfl (decide_eq_true (by rw [e5])) ?_
     refine TL.fieldAddr hF rfl rfl ?_
     refine TL.on rfl rfl rfl (decide_eq_true (by rw [e5])) ?_
     refine TL.load hF rfl (own_mem (b := b17) (cs := (rhC x).toArray) (e := 48) (fz := (0, 0)) (by simp) rfl) rfl ?_
     refine TL.on rfl rfl rfl (decide_eq_true (by rw [e5])) ?_
     refine TL.fieldAddr hF rfl rfl ?_
     refine TL.on rfl rfl rfl (decide_eq_true (by rw [e5])) ?_
     refine TL.load hF rfl (own_mem (b := b18) (cs := (rhC y).toArray) (e := 48) (fz := (0, 0)) (by simp) rfl) rfl ?_
     refine TL.on rfl rfl rfl (decide_eq_true (by rw [e5])) ?_
     refine TL.callV hF (keysL_fn (Row.ro hm1.r3) (Row.ro hm2.r3) (by omega)) rfl rfl ?_
     refine TL.pickT hF rfl (decide_eq_true (by rw [e5])) rfl rfl ?_
     refine TL.move hF rfl rfl ?_
     refine TL.on rfl rfl rfl (decide_eq_true (by rw [e6])) ?_
     refine TL.fieldAddr hF rfl rfl ?_
     refine TL.on rfl rfl rfl (decide_eq_true (by rw [e6])) ?_
     refine TL.load hF rfl (own_mem (b := b19) (cs := (rhC z).toArray) (e := 48) (fz := (0, 0)) (by simp) rfl) rfl ?_
     refine TL.on rfl rfl rfl (decide_eq_true (by rw [e6])) ?_
     refine TL.len hF rfl rfl ?_
     refine TL.on rfl rfl rfl (decide_eq_true (by rw [e6])) ?_
     refine TL.fieldAddr hF rfl rfl ?_
     refine TL.on rfl rfl rfl (decide_eq_true (by rw [e6])) ?_
     refine TL.load hF rfl (own_mem (b := b19) (cs := (rhC z).toArray) (e := 48) (fz := (0, 0)) (by simp) rfl) rfl ?_
     refine TL.on rfl rfl rfl (decide_eq_true (by rw [e6])) ?_
     refine TL.len hF rfl rfl ?_
     refine TL.on rfl rfl rfl (decide_eq_true (by rw [e6])) ?_
     refine TL.add hF rfl rfl (by rw [e7, e8]; decide) (by rw [e7, e8]; decide) rfl ?_
     refine TL.on rfl rfl rfl (decide_eq_true (by rw [e6])) ?_
     refine TL.fieldAddr hF rfl rfl ?_
     refine TL.on rfl rfl rfl (decide_eq_true (by rw [e6])) ?_
     refine TL.load hF rfl (own_mem (b := b19) (cs := (rhC z).toArray) (e := 48) (fz := (0, 0)) (by simp) rfl) rfl ?_
     refine TL.on rfl rfl rfl (decide_eq_true (by rw [e6])) ?_
     refine TL.len hF rfl rfl ?_
     refine TL.on rfl rfl rfl (decide_eq_true (by rw [e6])) ?_
     refine TL.add hF rfl rfl (by rw [e7, e8, e9]; decide) (by rw [e7, e8, e9]; decide) rfl ?_
     refine TL.on rfl rfl rfl (decide_eq_true (by rw [e6])) ?_
     refine TL.bin hF rfl rfl rfl rfl ?_
     refine TL.pickT hF rfl (decide_eq_true (by rw [e6])) rfl rfl ?_
     refine TL.move hF rfl rfl ?_
     refine TL.on rfl rfl rfl (by rw [e7, e8, e9]; rfl) ?_
     refine TL.fieldAddr hF rfl rfl ?_
     refine TL.on rfl rfl rfl (by rw [e7, e8, e9]; rfl) ?_
     refine TL.load hF rfl (own_mem (b := b19) (cs := (rhC z).toArray) (e := 48) (fz := (0, 0)) (by simp) rfl) rfl ?_
     refine TL.on rfl rfl rfl (by rw [e7, e8, e9]; rfl) ?_
     refine TL.len hF rfl rfl ?_
     refine TL.on rfl rfl rfl (by rw [e7, e8, e9]; rfl) ?_
     refine TL.move hF rfl rfl ?_
     refine TL.on rfl rfl rfl (by rw [e7, e8, e9]; rfl) ?_
     refine TL.len hF rfl rfl ?_
     refine TL.on rfl rfl rfl (by rw [e7, e8, e9]; rfl) ?_
     refine TL.bin hF rfl rfl rfl rfl ?_
     refine TL.pickT hF rfl (by rw [e7, e8, e9]; rfl) rfl rfl ?_
     refine TL.move hF rfl rfl ?_
     refine TL.on rfl rfl rfl (decide_eq_true (by rw [e10])) ?_
     refine TL.call hF (traced_law hT) rfl rfl ?_
     rintro _ _ rfl
     refine TL.pickT hF rfl (decide_eq_true (by rw [e10])) rfl rfl ?_
     refine TL.assign hF rfl rfl ?_
     refine TL.nil ?_
     refine TQ.then_n ?_
     refine T.ret ?_
     exact TQ.retsF [4] _ hb rfl rfl rfl (fun _ => rfl)
   ·refine TL.alloc hF rfl (fun b18 => ?_)
    refine TL.finK ⟨⟨_, rfl, _, _, [(91, _, some 1)], rfl, rfl, ⟨⟨rfl, rfl, rfl⟩, trivial⟩, fun ext => TL.loadA hF (rhC x) rfl rfl (fun j v hj => (hla.atA (i := 0) (by simp) j v hj).up (by simp)) rfl TL.fin⟩, ⟨_, rfl, _, _, [(94, _, some 4)], rfl, rfl, ⟨⟨rfl, rfl, rfl⟩, trivial⟩, fun ext => TL.loadA hF (rhC y) rfl rfl (fun j v hj => (hla.atA (i := 1) (by simp) j v hj).up (by simp)) rfl TL.fin⟩, ⟨_, rfl, _, _, [(97, _, some 7)], rfl, rfl, ⟨⟨rfl, rfl, rfl⟩, trivial⟩, fun ext => TL.loadA hF (rhC z) rfl rfl (fun j v hj => (hla.atA (i := 2) (by simp) j v hj).up (by simp)) rfl TL.fin⟩, trivial⟩ ?_
    refine DH.k2 (by kernel_rfl) (by kernel_rfl) (by kernel_rfl) (by kernel_rfl) (HBK.mk (h := 9) [2, 5, 8] [] rfl rfl rfl trivial (by kernel_rfl) (fun ext => ?_)) (HBK.mk (h := 11) [2, 5, 8] [] rfl rfl rfl trivial (by kernel_rfl) (fun ext => ?_))
    ·refine TL.alloc hF rfl (fun b17 => ?_)
     refine TL.finK ⟨⟨_, rfl, _, _, [(91, _, some 1)], rfl, rfl, ⟨⟨rfl, rfl, rfl⟩, trivial⟩, fun ext => TL.loadA hF (rhC x) rfl rfl (fun j v hj => (hla.atA (i := 0) (by simp) j v hj).up (by simp)) rfl TL.fin⟩, ⟨_, rfl, _, _, [(94, _, some 4)], rfl, rfl, ⟨⟨rfl, rfl, rfl⟩, trivial⟩, fun ext => TL.loadA hF (rhC y) rfl rfl (fun j v hj => (hla.atA (i := 1) (by simp) j v hj).up (by simp)) rfl TL.fin⟩, ⟨_, rfl, _, _, [(97, _, some 7)], rfl, rfl, ⟨⟨rfl, rfl, rfl⟩, trivial⟩, fun ext => TL.loadA hF (rhC z) rfl rfl (fun j v hj => (hla.atA (i := 2) (by simp) j v hj).up (by simp)) rfl TL.fin⟩, trivial⟩ ?_
     refine DH.k1 (by kernel_rfl) (by kernel_rfl) (by kernel_rfl) (by kernel_rfl) (HBK.mk (h := 11) [2, 5, 8] [] rfl rfl rfl trivial (by kernel_rfl) (fun ext => ?_))
     refine TL.alloc hF rfl (fun b19 => ?_)
     refine TL.finK ⟨⟨_, rfl, _, _, [(91, _, some 1)], rfl, rfl, ⟨⟨rfl, rfl, rfl⟩, trivial⟩, fun ext => TL.loadA hF (rhC x) rfl rfl (fun j v hj => (hla.atA (i := 0) (by simp) j v hj).up (by simp)) rfl TL.fin⟩, ⟨_, rfl, _, _, [(94, _, some 4)], rfl, rfl, ⟨⟨rfl, rfl, rfl⟩, trivial⟩, fun ext => TL.loadA hF (rhC y) rfl rfl (fun j v hj => (hla.atA (i := 1) (by simp) j v hj).up (by simp)) rfl TL.fin⟩, ⟨_, rfl, _, _, [(97, _, some 7)], rfl, rfl, ⟨⟨rfl, rfl, rfl⟩, trivial⟩, fun ext => TL.loadA hF (rhC z) rfl rfl (fun j v hj => (hla.atA (i := 2) (by simp) j v hj).up (by simp)) rfl TL.fin⟩, trivial⟩ ?_
     refine DH.k1 (by kernel_rfl) (by kernel_rfl) (by kernel_rfl) (by kernel_rfl) (HBK.mk (h := 12) [5, 8] [(17, _, some 9), (92, _, some 2)] rfl rfl rfl ⟨⟨rfl, rfl, rfl⟩, ⟨rfl, rfl, rfl⟩, trivial⟩ (by kernel_rfl) (fun ext => ?_))
     first | refine TL.storeAs hF (rhC x) (rhC x) 0 (cs := [.int .i64 0, .slice none 0 0, .slice none 0 0, .slice none 0 0, .slice none 0 0]) rfl rfl rfl rfl (rhC1 _) (Nat.le_refl 5) rfl ?_ | refine TL.storeAs hF (rhC x) (rhC x) 1 (cs := [.int .i64 0, .slice none 0 0, .slice none 0 0, .slice none 0 0, .slice none 0 0]) rfl rfl rfl rfl (rhC1 _) (Nat.le_refl 5) rfl ?_ | refine TL.storeAs hF (rhC x) (rhC x) 2 (cs := [.int .i64 0, .slice none 0 0, .slice none 0 0, .slice none 0 0, .slice none 0 0]) rfl rfl rfl rfl (rhC1 _) (Nat.le_refl 5) rfl ?_
     refine TL.finKN ⟨⟨_, rfl, _, _, [(94, _, some 4)], rfl, rfl, ⟨⟨rfl, rfl, rfl⟩, trivial⟩, fun ext => TL.loadA hF (rhC y) rfl rfl (fun j v hj => (hla.atA (i := 1) (by simp) j v hj).up (by simp)) rfl TL.fin⟩, ⟨_, rfl, _, _, [(97, _, some 7)], rfl, rfl, ⟨⟨rfl, rfl, rfl⟩, trivial⟩, fun ext => TL.loadA hF (rhC z) rfl rfl (fun j v hj => (hla.atA (i := 2) (by simp) j v hj).up (by simp)) rfl TL.fin⟩, trivial⟩ ?_
     refine DH.k1 (by kernel_rfl) (by kernel_rfl) (by kernel_rfl) (by kernel_rfl) (HBK.mk (h := 13) [8] [(18, _, some 10), (95, _, some 5)] rfl rfl rfl ⟨⟨rfl, rfl, rfl⟩, ⟨rfl, rfl, rfl⟩, trivial⟩ (by kernel_rfl) (fun ext => ?_))
     first | refine TL.storeAs hF (rhC y) (rhC y) 0 (cs := [.int .i64 0, .slice none 0 0, .slice none 0 0, .slice none 0 0, .slice none 0 0]) rfl rfl rfl rfl (rhC1 _) (Nat.le_refl 5) rfl ?_ | refine TL.storeAs hF (rhC y) (rhC y) 1 (cs := [.int .i64 0, .slice none 0 0, .slice none 0 0, .slice none 0 0, .slice none 0 0]) rfl rfl rfl rfl (rhC1 _) (Nat.le_refl 5) rfl ?_ | refine TL.storeAs hF (rhC y) (rhC y) 2 (cs := [.int .i64 0, .slice none 0 0, .slice none 0 0, .slice none 0 0, .slice none 0 0]) rfl rfl rfl rfl (rhC1 _) (Nat.le_refl 5) rfl ?_
     refine TL.finKN ⟨⟨_, rfl, _, _, [(97, _, some 7)], rfl, rfl, ⟨⟨rfl, rfl, rfl⟩, trivial⟩, fun ext => TL.loadA hF (rhC z) rfl rfl (fun j v hj => (hla.atA (i := 2) (by simp) j v hj).up (by simp)) rfl TL.fin⟩, trivial⟩ ?_
     refine DH.done [(19, _), (17, _), (18, _), (98, _), (97, _), (96, _), (95, _), (94, _), (93, _), (92, _), (91, _), (90, _)] [_] (by kernel_rfl) (by kernel_rfl) (by kernel_rfl) (by kernel_rfl) rfl rfl ?_
     first | refine TL.storeAs hF (rhC z) (rhC z) 0 (cs := [.int .i64 0, .slice none 0 0, .slice none 0 0, .slice none 0 0, .slice none 0 0]) rfl rfl rfl rfl (rhC1 _) (Nat.le_refl 5) rfl ?_ | refine TL.storeAs hF (rhC z) (rhC z) 1 (cs := [.int .i64 0, .slice none 0 0, .slice none 0 0, .slice none 0 0, .slice none 0 0]) rfl rfl rfl rfl (rhC1 _) (Nat.le_refl 5) rfl ?_ | refine TL.storeAs hF (rhC z) (rhC z) 2 (cs := [.int .i64 0, .slice none 0 0, .slice none 0 0, .slice none 0 0, .slice none 0 0]) rfl rfl rfl rfl (rhC1 _) (Nat.le_refl 5) rfl ?_
     refine TL.nil ?_
     refine TQ.then_n ?_
     refine T.seq ?_
     refine T.region ?_
     refine TL.fieldAddr hF rfl rfl ?_
     refine TL.load hF rfl (own_mem (b := b18) (cs := (rhC y).toArray) (e := 48) (fz := (0, 0)) (by simp) rfl) rfl ?_
     refine TL.fieldAddr hF rfl rfl ?_
     refine TL.load hF rfl (own_mem (b := b15) (cs := (nhC wh).toArray) (e := 43) (fz := (0, 0)) (by simp) rfl) rfl ?_
     refine TL.bin hF rfl rfl rfl rfl ?_
     refine TL.move hF rfl rfl ?_
     refine TL.on rfl rfl rfl (decide_eq_true (by rw [e1])) ?_
     refine TL.fieldAddr hF rfl rfl ?_
     refine TL.on rfl rfl rfl (decide_eq_true (by rw [e1])) ?_
     refine TL.load hF rfl (own_mem (b := b19) (cs := (rhC z).toArray) (e := 48) (fz := (0, 0)) (by simp) rfl) rfl ?_
     refine TL.on rfl rfl rfl (decide_eq_true (by rw [e1])) ?_
     refine TL.fieldAddr hF rfl rfl ?_
     refine TL.on rfl rfl rfl (decide_eq_true (by rw [e1])) ?_
     refine TL.load hF rfl (own_mem (b := b15) (cs := (nhC wh).toArray) (e := 43) (fz := (0, 0)) (by simp) rfl) rfl ?_
     refine TL.on rfl rfl rfl (decide_eq_true (by rw [e1])) ?_
     refine TL.bin hF rfl rfl rfl rfl ?_
     refine TL.pickT hF rfl (decide_eq_true (by rw [e1])) rfl rfl ?_
     refine TL.move hF rfl rfl ?_
     refine TL.on rfl rfl rfl (decide_eq_true (by rw [e2])) ?_
     refine TL.fieldAddr hF rfl rfl ?_
     refine TL.on rfl rfl rfl (decide_eq_true (by rw [e2])) ?_
     refine TL.load hF rfl (own_mem (b := b17) (cs := (rhC x).toArray) (e := 48) (fz := (0, 0)) (by simp) rfl) rfl ?_
     refine TL.on rfl rfl rfl (decide_eq_true (by rw [e2])) ?_
     refine TL.fieldAddr hF rfl rfl ?_
     refine TL.on rfl rfl rfl (decide_eq_true (by rw [e2])) ?_
     refine TL.load hF rfl (own_mem (b := b18) (cs := (rhC y).toArray) (e := 48) (fz := (0, 0)) (by simp) rfl) rfl ?_
     refine TL.on rfl rfl rfl (decide_eq_true (by rw [e2])) ?_
     refine TL.callV hF (keysL_fn (Row.ro hm1.r2) (Row.ro hm2.r4) (by omega)) rfl rfl ?_
     refine TL.pickT hF rfl (decide_eq_true (by rw [e2])) rfl rfl ?_
     refine TL.move hF rfl rfl ?_
     refine TL.on rfl rfl rfl (decide_eq_true (by rw [e3])) ?_
     refine TL.fieldAddr hF rfl rfl ?_
     refine TL.on rfl rfl rfl (decide_eq_true (by rw [e3])) ?_
     refine TL.load hF rfl (own_mem (b := b17) (cs := (rhC x).toArray) (e := 48) (fz := (0, 0)) (by simp) rfl) rfl ?_
     refine TL.on rfl rfl rfl (decide_eq_true (by rw [e3])) ?_
     refine TL.fieldAddr hF rfl rfl ?_
     refine TL.on rfl rfl rfl (decide_eq_true (by rw [e3])) ?_
     refine TL.load hF rfl (own_mem (b := b18) (cs := (rhC y).toArray) (e := 48) (fz := (0, 0)) (by simp) rfl) rfl ?_
     refine TL.on rfl rfl rfl (decide_eq_true (by rw [e3])) ?_
     refine TL.callV hF (keysL_fn (Row.ro hm1.r4) (Row.ro hm2.r2) (by omega)) rfl rfl ?_
     refine TL.pickT hF rfl (decide_eq_true (by rw [e3])) rfl rfl ?_
     refine TL.move hF rfl rfl ?_
     refine TL.on rfl rfl rfl (decide_eq_true (by rw [e4])) ?_
     refine TL.fieldAddr hF rfl rfl ?_
     refine TL.on rfl rfl rfl (decide_eq_true (by rw [e4])) ?_
     refine TL.load hF rfl (own_mem (b := b17) (cs := (rhC x).toArray) (e := 48) (fz := (0, 0)) (by simp) rfl) rfl ?_
     refine TL.on rfl rfl rfl (decide_eq_true (by rw [e4])) ?_
     refine TL.fieldAddr hF rfl rfl ?_
     refine TL.on rfl rfl rfl (decide_eq_true (by rw [e4])) ?_
     refine TL.load hF rfl (own_mem (b := b18) (cs := (rhC y).toArray) (e := 48) (fz := (0, 0)) (by simp) rfl) rfl ?_
     refine TL.on rfl rfl rfl (decide_eq_true (by rw [e4])) ?_
     refine TL.callV hF (keysL_fn (Row.ro hm1.r1) (Row.ro hm2.r1) (by omega)) rfl rfl ?_
     refine TL.pickT hF rfl (decide_eq_true (by rw [e4])) rfl rfl ?_
     refine TL.move hF rfl rfl ?_
     refine TL.on rfl rfl rfl (decide_eq_true (by rw [e5])) ?_
     refine TL.fieldAddr hF rfl rfl ?_
     refine TL.on rfl rfl rfl (decide_eq_true (by rw [e5])) ?_
     refine TL.load hF rfl (own_mem (b := b17) (cs := (rhC x).toArray) (e := 48) (fz := (0, 0)) (by simp) rfl) rfl ?_
     refine TL.on rfl rfl rfl (decide_eq_true (by rw [e5])) ?_
     refine TL.fieldAddr hF rfl rfl ?_
     refine TL.on rfl rfl rfl (decide_eq_true (by rw [e5])) ?_
     refine TL.load hF rfl (own_mem (b := b18) (cs := (rhC y).toArray) (e := 48) (fz := (0, 0)) (by simp) rfl) rfl ?_
     refine TL.on rfl rfl rfl (decide_eq_true (by rw [e5])) ?_
     refine TL.callV hF (keysL_fn (Row.ro hm1.r3) (Row.ro hm2.r3) (by omega)) rfl rfl ?_
     refine TL.pickT hF rfl (decide_eq_true (by rw [e5])) rfl rfl ?_
     refine TL.move hF rfl rfl ?_
     refine TL.on rfl rfl rfl (decide_eq_true (by rw [e6])) ?_
     refine TL.fieldAddr hF rfl rfl ?_
     refine TL.on rfl rfl rfl (decide_eq_true (by rw [e6])) ?_
     refine TL.load hF rfl (own_mem (b := b19) (cs := (rhC z).toArray) (e := 48) (fz := (0, 0)) (by simp) rfl) rfl ?_
     refine TL.on rfl rfl rfl (decide_eq_true (by rw [e6])) ?_
     refine TL.len hF rfl rfl ?_
     refine TL.on rfl rfl rfl (decide_eq_true (by rw [e6])) ?_
     refine TL.fieldAddr hF rfl rfl ?_
     refine TL.on rfl rfl rfl (decide_eq_true (by rw [e6])) ?_
     refine TL.load hF rfl (own_mem (b := b19) (cs := (rhC z).toArray) (e := 48) (fz := (0, 0)) (by simp) rfl) rfl ?_
     refine TL.on rfl rfl rfl (decide_eq_true (by rw [e6])) ?_
     refine TL.len hF rfl rfl ?_
     refine TL.on rfl rfl rfl (decide_eq_true (by rw [e6])) ?_
     refine TL.add hF rfl rfl (by rw [e7, e8]; decide) (by rw [e7, e8]; decide) rfl ?_
     refine TL.on rfl rfl rfl (decide_eq_true (by rw [e6])) ?_
     refine TL.fieldAddr hF rfl rfl ?_
     refine TL.on rfl rfl rfl (decide_eq_true (by rw [e6])) ?_
     refine TL.load hF rfl (own_mem (b := b19) (cs := (rhC z).toArray) (e := 48) (fz := (0, 0)) (by simp) rfl) rfl ?_
     refine TL.on rfl rfl rfl (decide_eq_true (by rw [e6])) ?_
     refine TL.len hF rfl rfl ?_
     refine TL.on rfl rfl rfl (decide_eq_true (by rw [e6])) ?_
     refine TL.add hF rfl rfl (by rw [e7, e8, e9]; decide) (by rw [e7, e8, e9]; decide) rfl ?_
     refine TL.on rfl rfl rfl (decide_eq_true (by rw [e6])) ?_
     refine TL.bin hF rfl rfl rfl rfl ?_
     refine TL.pickT hF rfl (decide_eq_true (by rw [e6])) rfl rfl ?_
     refine TL.move hF rfl rfl ?_
     refine TL.on rfl rfl rfl (by rw [e7, e8, e9]; rfl) ?_
     refine TL.fieldAddr hF rfl rfl ?_
     refine TL.on rfl rfl rfl (by rw [e7, e8, e9]; rfl) ?_
     refine TL.load hF rfl (own_mem (b := b19) (cs := (rhC z).toArray) (e := 48) (fz := (0, 0)) (by simp) rfl) rfl ?_
     refine TL.on rfl rfl rfl (by rw [e7, e8, e9]; rfl) ?_
     refine TL.len hF rfl rfl ?_
     refine TL.on rfl rfl rfl (by rw [e7, e8, e9]; rfl) ?_
     refine TL.move hF rfl rfl ?_
     refine TL.on rfl rfl rfl (by rw [e7, e8, e9]; rfl) ?_
     refine TL.len hF rfl rfl ?_
     refine TL.on rfl rfl rfl (by rw [e7, e8, e9]; rfl) ?_
     refine TL.bin hF rfl rfl rfl rfl ?_
     refine TL.pickT hF rfl (by rw [e7, e8, e9]; rfl) rfl rfl ?_
     refine TL.move hF rfl rfl ?_
     refine TL.on rfl rfl rfl (decide_eq_true (by rw [e10])) ?_
     refine TL.call hF (traced_law hT) rfl rfl ?_
     rintro _ _ rfl
     refine TL.pickT hF rfl (decide_eq_true (by rw [e10])) rfl rfl ?_
     refine TL.assign hF rfl rfl ?_
     refine TL.nil ?_
     refine TQ.then_n ?_
     refine T.ret ?_
     exact TQ.retsF [4] _ hb rfl rfl rfl (fun _ => rfl)
    ·refine TL.alloc hF rfl (fun b19 => ?_)
     refine TL.finK ⟨⟨_, rfl, _, _, [(91, _, some 1)], rfl, rfl, ⟨⟨rfl, rfl, rfl⟩, trivial⟩, fun ext => TL.loadA hF (rhC x) rfl rfl (fun j v hj => (hla.atA (i := 0) (by simp) j v hj).up (by simp)) rfl TL.fin⟩, ⟨_, rfl, _, _, [(94, _, some 4)], rfl, rfl, ⟨⟨rfl, rfl, rfl⟩, trivial⟩, fun ext => TL.loadA hF (rhC y) rfl rfl (fun j v hj => (hla.atA (i := 1) (by simp) j v hj).up (by simp)) rfl TL.fin⟩, ⟨_, rfl, _, _, [(97, _, some 7)], rfl, rfl, ⟨⟨rfl, rfl, rfl⟩, trivial⟩, fun ext => TL.loadA hF (rhC z) rfl rfl (fun j v hj => (hla.atA (i := 2) (by simp) j v hj).up (by simp)) rfl TL.fin⟩, trivial⟩ ?_
     refine DH.k1 (by kernel_rfl) (by kernel_rfl) (by kernel_rfl) (by kernel_rfl) (HBK.mk (h := 9) [2, 5, 8] [] rfl rfl rfl trivial (by kernel_rfl) (fun ext => ?_))
     refine TL.alloc hF rfl (fun b17 => ?_)
     refine TL.finK ⟨⟨_, rfl, _, _, [(91, _, some 1)], rfl, rfl, ⟨⟨rfl, rfl, rfl⟩, trivial⟩, fun ext => TL.loadA hF (rhC x) rfl rfl (fun j v hj => (hla.atA (i := 0) (by simp) j v hj).up (by simp)) rfl TL.fin⟩, ⟨_, rfl, _, _, [(94, _, some 4)], rfl, rfl, ⟨⟨rfl, rfl, rfl⟩, trivial⟩, fun ext => TL.loadA hF (rhC y) rfl rfl (fun j v hj => (hla.atA (i := 1) (by simp) j v hj).up (by simp)) rfl TL.fin⟩, ⟨_, rfl, _, _, [(97, _, some 7)], rfl, rfl, ⟨⟨rfl, rfl, rfl⟩, trivial⟩, fun ext => TL.loadA hF (rhC z) rfl rfl (fun j v hj => (hla.atA (i := 2) (by simp) j v hj).up (by simp)) rfl TL.fin⟩, trivial⟩ ?_
     refine DH.k1 (by kernel_rfl) (by kernel_rfl) (by kernel_rfl) (by kernel_rfl) (HBK.mk (h := 12) [5, 8] [(17, _, some 9), (92, _, some 2)] rfl rfl rfl ⟨⟨rfl, rfl, rfl⟩, ⟨rfl, rfl, rfl⟩, trivial⟩ (by kernel_rfl) (fun ext => ?_))
     first | refine TL.storeAs hF (rhC x) (rhC x) 0 (cs := [.int .i64 0, .slice none 0 0, .slice none 0 0, .slice none 0 0, .slice none 0 0]) rfl rfl rfl rfl (rhC1 _) (Nat.le_refl 5) rfl ?_ | refine TL.storeAs hF (rhC x) (rhC x) 1 (cs := [.int .i64 0, .slice none 0 0, .slice none 0 0, .slice none 0 0, .slice none 0 0]) rfl rfl rfl rfl (rhC1 _) (Nat.le_refl 5) rfl ?_ | refine TL.storeAs hF (rhC x) (rhC x) 2 (cs := [.int .i64 0, .slice none 0 0, .slice none 0 0, .slice none 0 0, .slice none 0 0]) rfl rfl rfl rfl (rhC1 _) (Nat.le_refl 5) rfl ?_
     refine TL.finKN ⟨⟨_, rfl, _, _, [(94, _, some 4)], rfl, rfl, ⟨⟨rfl, rfl, rfl⟩, trivial⟩, fun ext => TL.loadA hF (rhC y) rfl rfl (fun j v hj => (hla.atA (i := 1) (by simp) j v hj).up (by simp)) rfl TL.fin⟩, ⟨_, rfl, _, _, [(97, _, some 7)], rfl, rfl, ⟨⟨rfl, rfl, rfl⟩, trivial⟩, fun ext => TL.loadA hF (rhC z) rfl rfl (fun j v hj => (hla.atA (i := 2) (by simp) j v hj).up (by simp)) rfl TL.fin⟩, trivial⟩ ?_
     refine DH.k1 (by kernel_rfl) (by kernel_rfl) (by kernel_rfl) (by kernel_rfl) (HBK.mk (h := 13) [8] [(18, _, some 10), (95, _, some 5)] rfl rfl rfl ⟨⟨rfl, rfl, rfl⟩, ⟨rfl, rfl, rfl⟩, trivial⟩ (by kernel_rfl) (fun ext => ?_))
     first | refine TL.storeAs hF (rhC y) (rhC y) 0 (cs := [.int .i64 0, .slice none 0 0, .slice none 0 0, .slice none 0 0, .slice none 0 0]) rfl rfl rfl rfl (rhC1 _) (Nat.le_refl 5) rfl ?_ | refine TL.storeAs hF (rhC y) (rhC y) 1 (cs := [.int .i64 0, .slice none 0 0, .slice none 0 0, .slice none 0 0, .slice none 0 0]) rfl rfl rfl rfl (rhC1 _) (Nat.le_refl 5) rfl ?_ | refine TL.storeAs hF (rhC y) (rhC y) 2 (cs := [.int .i64 0, .slice none 0 0, .slice none 0 0, .slice none 0 0, .slice none 0 0]) rfl rfl rfl rfl (rhC1 _) (Nat.le_refl 5) rfl ?_
     refine TL.finKN ⟨⟨_, rfl, _, _, [(97, _, some 7)], rfl, rfl, ⟨⟨rfl, rfl, rfl⟩, trivial⟩, fun ext => TL.loadA hF (rhC z) rfl rfl (fun j v hj => (hla.atA (i := 2) (by simp) j v hj).up (by simp)) rfl TL.fin⟩, trivial⟩ ?_
     refine DH.done [(17, _), (19, _), (18, _), (98, _), (97, _), (96, _), (95, _), (94, _), (93, _), (92, _), (91, _), (90, _)] [_] (by kernel_rfl) (by kernel_rfl) (by kernel_rfl) (by kernel_rfl) rfl rfl ?_
     first | refine TL.storeAs hF (rhC z) (rhC z) 0 (cs := [.int .i64 0, .slice none 0 0, .slice none 0 0, .slice none 0 0, .slice none 0 0]) rfl rfl rfl rfl (rhC1 _) (Nat.le_refl 5) rfl ?_ | refine TL.storeAs hF (rhC z) (rhC z) 1 (cs := [.int .i64 0, .slice none 0 0, .slice none 0 0, .slice none 0 0, .slice none 0 0]) rfl rfl rfl rfl (rhC1 _) (Nat.le_refl 5) rfl ?_ | refine TL.storeAs hF (rhC z) (rhC z) 2 (cs := [.int .i64 0, .slice none 0 0, .slice none 0 0, .slice none 0 0, .slice none 0 0]) rfl rfl rfl rfl (rhC1 _) (Nat.le_refl 5) rfl ?_
     refine TL.nil ?_
     refine TQ.then_n ?_
     refine T.seq ?_
     refine T.region ?_
     refine TL.fieldAddr hF rfl rfl ?_
     refine TL.load hF rfl (own_mem (b := b18) (cs := (rhC y).toArray) (e := 48) (fz := (0, 0)) (by simp) rfl) rfl ?_
     refine TL.fieldAddr hF rfl rfl ?_
     refine TL.load hF rfl (own_mem (b := b15) (cs := (nhC wh).toArray) (e := 43) (fz := (0, 0)) (by simp) rfl) rfl ?_
     refine TL.bin hF rfl rfl rfl rfl ?_
     refine TL.move hF rfl rfl ?_
     refine TL.on rfl rfl rfl (decide_eq_true (by rw [e1])) ?_
     refine TL.fieldAddr hF rfl rfl ?_
     refine TL.on rfl rfl rfl (decide_eq_true (by rw [e1])) ?_
     refine TL.load hF rfl (own_mem (b := b19) (cs := (rhC z).toArray) (e := 48) (fz := (0, 0)) (by simp) rfl) rfl ?_
     refine TL.on rfl rfl rfl (decide_eq_true (by rw [e1])) ?_
     refine TL.fieldAddr hF rfl rfl ?_
     refine TL.on rfl rfl rfl (decide_eq_true (by rw [e1])) ?_
     refine TL.load hF rfl (own_mem (b := b15) (cs := (nhC wh).toArray) (e := 43) (fz := (0, 0)) (by simp) rfl) rfl ?_
     refine TL.on rfl rfl rfl (decide_eq_true (by rw [e1])) ?_
     refine TL.bin hF rfl rfl rfl rfl ?_
     refine TL.pickT hF rfl (decide_eq_true (by rw [e1])) rfl rfl ?_
     refine TL.move hF rfl rfl ?_
     refine TL.on rfl rfl rfl (decide_eq_true (by rw [e2])) ?_
     refine TL.fieldAddr hF rfl rfl ?_
     refine TL.on rfl rfl rfl (decide_eq_true (by rw [e2])) ?_
     refine TL.load hF rfl (own_mem (b := b17) (cs := (rhC x).toArray) (e := 48) (fz := (0, 0)) (by simp) rfl) rfl ?_
     refine TL.on rfl rfl rfl (decide_eq_true (by rw [e2])) ?_
     refine TL.fieldAddr hF rfl rfl ?_
     refine TL.on rfl rfl rfl (decide_eq_true (by rw [e2])) ?_
     refine TL.load hF rfl (own_mem (b := b18) (cs := (rhC y).toArray) (e := 48) (fz := (0, 0)) (by simp) rfl) rfl ?_
     refine TL.on rfl rfl rfl (decide_eq_true (by rw [e2])) ?_
     refine TL.callV hF (keysL_fn (Row.ro hm1.r2) (Row.ro hm2.r4) (by omega)) rfl rfl ?_
     refine TL.pickT hF rfl (decide_eq_true (by rw [e2])) rfl rfl ?_
     refine TL.move hF rfl rfl ?_
     refine TL.on rfl rfl rfl (decide_eq_true (by rw [e3])) ?_
     refine TL.fieldAddr hF rfl rfl ?_
     refine TL.on rfl rfl rfl (decide_eq_true (by rw [e3])) ?_
     refine TL.load hF rfl (own_mem (b := b17) (cs := (rhC x).toArray) (e := 48) (fz := (0, 0)) (by simp) rfl) rfl ?_
     refine TL.on rfl rfl rfl (decide_eq_true (by rw [e3])) ?_
     refine TL.fieldAddr hF rfl rfl ?_
     refine TL.on rfl rfl rfl (decide_eq_true (by rw [e3])) ?_
     refine TL.load hF rfl (own_mem (b := b18) (cs := (rhC y).toArray) (e := 48) (fz := (0, 0)) (by simp) rfl) rfl ?_
     refine TL.on rfl rfl rfl (decide_eq_true (by rw [e3])) ?_
     refine TL.callV hF (keysL_fn (Row.ro hm1.r4) (Row.ro hm2.r2) (by omega)) rfl rfl ?_
     refine TL.pickT hF rfl (decide_eq_true (by rw [e3])) rfl rfl ?_
     refine TL.move hF rfl rfl ?_
     refine TL.on rfl rfl rfl (decide_eq_true (by rw [e4])) ?_
     refine TL.fieldAddr hF rfl rfl ?_
     refine TL.on rfl rfl rfl (decide_eq_true (by rw [e4])) ?_
     refine TL.load hF rfl (own_mem (b := b17) (cs := (rhC x).toArray) (e := 48) (fz := (0, 0)) (by simp) rfl) rfl ?_
     refine TL.on rfl rfl rfl (decide_eq_true (by rw [e4])) ?_
     refine TL.fieldAddr hF rfl rfl ?_
     refine TL.on rfl rfl rfl (decide_eq_true (by rw [e4])) ?_
     refine TL.load hF rfl (own_mem (b := b18) (cs := (rhC y).toArray) (e := 48) (fz := (0, 0)) (by simp) rfl) rfl ?_
     refine TL.on rfl rfl rfl (decide_eq_true (by rw [e4])) ?_
     refine TL.callV hF (keysL_fn (Row.ro hm1.r1) (Row.ro hm2.r1) (by omega)) rfl rfl ?_
     refine TL.pickT hF rfl (decide_eq_true (by rw [e4])) rfl rfl ?_
     refine TL.move hF rfl rfl ?_
     refine TL.on rfl rfl rfl (decide_eq_true (by rw [e5])) ?_
     refine TL.fieldAddr hF rfl rfl ?_
     refine TL.on rfl rfl rfl (decide_eq_true (by rw [e5])) ?_
     refine TL.load hF rfl (own_mem (b := b17) (cs := (rhC x).toArray) (e := 48) (fz := (0, 0)) (by simp) rfl) rfl ?_
     refine TL.on rfl rfl rfl (decide_eq_true (by rw [e5])) ?_
     refine TL.fieldAddr hF rfl rfl ?_
     refine TL.on rfl rfl rfl (decide_eq_true (by rw [e5])) ?_
     refine TL.load hF rfl (own_mem (b := b18) (cs := (rhC y).toArray) (e := 48) (fz := (0, 0)) (by simp) rfl) rfl ?_
     refine TL.on rfl rfl rfl (decide_eq_true (by rw [e5])) ?_
     refine TL.callV hF (keysL_fn (Row.ro hm1.r3) (Row.ro hm2.r3) (by omega)) rfl rfl ?_
     refine TL.pickT hF rfl (decide_eq_true (by rw [e5])) rfl rfl ?_
     refine TL.move hF rfl rfl ?_
     refine TL.on rfl rfl rfl (decide_eq_true (by rw [e6])) ?_
     refine TL.fieldAddr hF rfl rfl ?_
     refine TL.on rfl rfl rfl (decide_eq_true (by rw [e6])) ?_
     refine TL.load hF rfl (own_mem (b := b19) (cs := (rhC z).toArray) (e := 48) (fz := (0, 0)) (by simp) rfl) rfl ?_
     refine TL.on rfl rfl rfl (decide_eq_true (by rw [e6])) ?_
     refine TL.len hF rfl rfl ?_
     refine TL.on rfl rfl rfl (decide_eq_true (by rw [e6])) ?_
     refine TL.fieldAddr hF rfl rfl ?_
     refine TL.on rfl rfl rfl (decide_eq_true (by rw [e6])) ?_
     refine TL.load hF rfl (own_mem (b := b19) (cs := (rhC z).toArray) (e := 48) (fz := (0, 0)) (by simp) rfl) rfl ?_
     refine TL.on rfl rfl rfl (decide_eq_true (by rw [e6])) ?_
     refine TL.len hF rfl rfl ?_
     refine TL.on rfl rfl rfl (decide_eq_true (by rw [e6])) ?_
     refine TL.add hF rfl rfl (by rw [e7, e8]; decide) (by rw [e7, e8]; decide) rfl ?_
     refine TL.on rfl rfl rfl (decide_eq_true (by rw [e6])) ?_
     refine TL.fieldAddr hF rfl rfl ?_
     refine TL.on rfl rfl rfl (decide_eq_true (by rw [e6])) ?_
     refine TL.load hF rfl (own_mem (b := b19) (cs := (rhC z).toArray) (e := 48) (fz := (0, 0)) (by simp) rfl) rfl ?_
     refine TL.on rfl rfl rfl (decide_eq_true (by rw [e6])) ?_
     refine TL.len hF rfl rfl ?_
     refine TL.on rfl rfl rfl (decide_eq_true (by rw [e6])) ?_
     refine TL.add hF rfl rfl (by rw [e7, e8, e9]; decide) (by rw [e7, e8, e9]; decide) rfl ?_
     refine TL.on rfl rfl rfl (decide_eq_true (by rw [e6])) ?_
     refine TL.bin hF rfl rfl rfl rfl ?_
     refine TL.pickT hF rfl (decide_eq_true (by rw [e6])) rfl rfl ?_
     refine TL.move hF rfl rfl ?_
     refine TL.on rfl rfl rfl (by rw [e7, e8, e9]; rfl) ?_
     refine TL.fieldAddr hF rfl rfl ?_
     refine TL.on rfl rfl rfl (by rw [e7, e8, e9]; rfl) ?_
     refine TL.load hF rfl (own_mem (b := b19) (cs := (rhC z).toArray) (e := 48) (fz := (0, 0)) (by simp) rfl) rfl ?_
     refine TL.on rfl rfl rfl (by rw [e7, e8, e9]; rfl) ?_
     refine TL.len hF rfl rfl ?_
     refine TL.on rfl rfl rfl (by rw [e7, e8, e9]; rfl) ?_
     refine TL.move hF rfl rfl ?_
     refine TL.on rfl rfl rfl (by rw [e7, e8, e9]; rfl) ?_
     refine TL.len hF rfl rfl ?_
     refine TL.on rfl rfl rfl (by rw [e7, e8, e9]; rfl) ?_
     refine TL.bin hF rfl rfl rfl rfl ?_
     refine TL.pickT hF rfl (by rw [e7, e8, e9]; rfl) rfl rfl ?_
     refine TL.move hF rfl rfl ?_
     refine TL.on rfl rfl rfl (decide_eq_true (by rw [e10])) ?_
     refine TL.call hF (traced_law hT) rfl rfl ?_
     rintro _ _ rfl
     refine TL.pickT hF rfl (decide_eq_true (by rw [e10])) rfl rfl ?_
     refine TL.assign hF rfl rfl ?_
     refine TL.nil ?_
     refine TQ.then_n ?_
     refine T.ret ?_
     exact TQ.retsF [4] _ hb rfl rfl rfl (fun _ => rfl)
   ·refine TL.alloc hF rfl (fun b19 => ?_)
    refine TL.finK ⟨⟨_, rfl, _, _, [(91, _, some 1)], rfl, rfl, ⟨⟨rfl, rfl, rfl⟩, trivial⟩, fun ext => TL.loadA hF (rhC x) rfl rfl (fun j v hj => (hla.atA (i := 0) (by simp) j v hj).up (by simp)) rfl TL.fin⟩, ⟨_, rfl, _, _, [(94, _, some 4)], rfl, rfl, ⟨⟨rfl, rfl, rfl⟩, trivial⟩, fun ext => TL.loadA hF (rhC y) rfl rfl (fun j v hj => (hla.atA (i := 1) (by simp) j v hj).up (by simp)) rfl TL.fin⟩, ⟨_, rfl, _, _, [(97, _, some 7)], rfl, rfl, ⟨⟨rfl, rfl, rfl⟩, trivial⟩, fun ext => TL.loadA hF (rhC z) rfl rfl (fun j v hj => (hla.atA (i := 2) (by simp) j v hj).up (by simp)) rfl TL.fin⟩, trivial⟩ ?_
    refine DH.k2 (by kernel_rfl) (by kernel_rfl) (by kernel_rfl) (by kernel_rfl) (HBK.mk (h := 9) [2, 5, 8] [] rfl rfl rfl trivial (by kernel_rfl) (fun ext => ?_)) (HBK.mk (h := 10) [2, 5, 8] [] rfl rfl rfl trivial (by kernel_rfl) (fun ext => ?_))
    ·refine TL.alloc hF rfl (fun b17 => ?_)
     refine TL.finK ⟨⟨_, rfl, _, _, [(91, _, some 1)], rfl, rfl, ⟨⟨rfl, rfl, rfl⟩, trivial⟩, fun ext => TL.loadA hF (rhC x) rfl rfl (fun j v hj => (hla.atA (i := 0) (by simp) j v hj).up (by simp)) rfl TL.fin⟩, ⟨_, rfl, _, _, [(94, _, some 4)], rfl, rfl, ⟨⟨rfl, rfl, rfl⟩, trivial⟩, fun ext => TL.loadA hF (rhC y) rfl rfl (fun j v hj => (hla.atA (i := 1) (by simp) j v hj).up (by simp)) rfl TL.fin⟩, ⟨_, rfl, _, _, [(97, _, some 7)], rfl, rfl, ⟨⟨rfl, rfl, rfl⟩, trivial⟩, fun ext => TL.loadA hF (rhC z) rfl rfl (fun j v hj => (hla.atA (i := 2) (by simp) j v hj).up (by simp)) rfl TL.fin⟩, trivial⟩ ?_
     refine DH.k1 (by kernel_rfl) (by kernel_rfl) (by kernel_rfl) (by kernel_rfl) (HBK.mk (h := 10) [2, 5, 8] [] rfl rfl rfl trivial (by kernel_rfl) (fun ext => ?_))
     refine TL.alloc hF rfl (fun b18 => ?_)
     refine TL.finK ⟨⟨_, rfl, _, _, [(91, _, some 1)], rfl, rfl, ⟨⟨rfl, rfl, rfl⟩, trivial⟩, fun ext => TL.loadA hF (rhC x) rfl rfl (fun j v hj => (hla.atA (i := 0) (by simp) j v hj).up (by simp)) rfl TL.fin⟩, ⟨_, rfl, _, _, [(94, _, some 4)], rfl, rfl, ⟨⟨rfl, rfl, rfl⟩, trivial⟩, fun ext => TL.loadA hF (rhC y) rfl rfl (fun j v hj => (hla.atA (i := 1) (by simp) j v hj).up (by simp)) rfl TL.fin⟩, ⟨_, rfl, _, _, [(97, _, some 7)], rfl, rfl, ⟨⟨rfl, rfl, rfl⟩, trivial⟩, fun ext => TL.loadA hF (rhC z) rfl rfl (fun j v hj => (hla.atA (i := 2) (by simp) j v hj).up (by simp)) rfl TL.fin⟩, trivial⟩ ?_
     refine DH.k1 (by kernel_rfl) (by kernel_rfl) (by kernel_rfl) (by kernel_rfl) (HBK.mk (h := 12) [5, 8] [(17, _, some 9), (92, _, some 2)] rfl rfl rfl ⟨⟨rfl, rfl, rfl⟩, ⟨rfl, rfl, rfl⟩, trivial⟩ (by kernel_rfl) (fun ext => ?_))
     first | refine TL.storeAs hF (rhC x) (rhC x) 0 (cs := [.int .i64 0, .slice none 0 0, .slice none 0 0, .slice none 0 0, .slice none 0 0]) rfl rfl rfl rfl (rhC1 _) (Nat.le_refl 5) rfl ?_ | refine TL.storeAs hF (rhC x) (rhC x) 1 (cs := [.int .i64 0, .slice none 0 0, .slice none 0 0, .slice none 0 0, .slice none 0 0]) rfl rfl rfl rfl (rhC1 _) (Nat.le_refl 5) rfl ?_ | refine TL.storeAs hF (rhC x) (rhC x) 2 (cs := [.int .i64 0, .slice none 0 0, .slice none 0 0, .slice none 0 0, .slice none 0 0]) rfl rfl rfl rfl (rhC1 _) (Nat.le_refl 5) rfl ?_
     refine TL.finKN ⟨⟨_, rfl, _, _, [(94, _, some 4)], rfl, rfl, ⟨⟨rfl, rfl, rfl⟩, trivial⟩, fun ext => TL.loadA hF (rhC y) rfl rfl (fun j v hj => (hla.atA (i := 1) (by simp) j v hj).up (by simp)) rfl TL.fin⟩, ⟨_, rfl, _, _, [(97, _, some 7)], rfl, rfl, ⟨⟨rfl, rfl, rfl⟩, trivial⟩, fun ext => TL.loadA hF (rhC z) rfl rfl (fun j v hj => (hla.atA (i := 2) (by simp) j v hj).up (by simp)) rfl TL.fin⟩, trivial⟩ ?_
     refine DH.k1 (by kernel_rfl) (by kernel_rfl) (by kernel_rfl) (by kernel_rfl) (HBK.mk (h := 13) [8] [(18, _, some 10), (95, _, some 5)] rfl rfl rfl ⟨⟨rfl, rfl, rfl⟩, ⟨rfl, rfl, rfl⟩, trivial⟩ (by kernel_rfl) (fun ext => ?_))
     first | refine TL.storeAs hF (rhC y) (rhC y) 0 (cs := [.int .i64 0, .slice none 0 0, .slice none 0 0, .slice none 0 0, .slice none 0 0]) rfl rfl rfl rfl (rhC1 _) (Nat.le_refl 5) rfl ?_ | refine TL.storeAs hF (rhC y) (rhC y) 1 (cs := [.int .i64 0, .slice none 0 0, .slice none 0 0, .slice none 0 0, .slice none 0 0]) rfl rfl rfl rfl (rhC1 _) (Nat.le_refl 5) rfl ?_ | refine TL.storeAs hF (rhC y) (rhC y) 2 (cs := [.int .i64 0, .slice none 0 0, .slice none 0 0, .slice none 0 0, .slice none 0 0]) rfl rfl rfl rfl (rhC1 _) (Nat.le_refl 5) rfl ?_
     refine TL.finKN ⟨⟨_, rfl, _, _, [(97, _, some 7)], rfl, rfl, ⟨⟨rfl, rfl, rfl⟩, trivial⟩, fun ext => TL.loadA hF (rhC z) rfl rfl (fun j v hj => (hla.atA (i := 2) (by simp) j v hj).up (by simp)) rfl TL.fin⟩, trivial⟩ ?_
     refine DH.done [(18, _), (17, _), (19, _), (98, _), (97, _), (96, _), (95, _), (94, _), (93, _), (92, _), (91, _), (90, _)] [_] (by kernel_rfl) (by kernel_rfl) (by kernel_rfl) (by kernel_rfl) rfl rfl ?_
     first | refine TL.storeAs hF (rhC z) (rhC z) 0 (cs := [.int .i64 0, .slice none 0 0, .slice none 0 0, .slice none 0 0, .slice none 0 0]) rfl rfl rfl rfl (rhC1 _) (Nat.le_refl 5) rfl ?_ | refine TL.storeAs hF (rhC z) (rhC z) 1 (cs := [.int .i64 0, .slice none 0 0, .slice none 0 0, .slice none 0 0, .slice none 0 0]) rfl rfl rfl rfl (rhC1 _) (Nat.le_refl 5) rfl ?_ | refine TL.storeAs hF (rhC z) (rhC z) 2 (cs := [.int .i64 0, .slice none 0 0, .slice none 0 0, .slice none 0 0, .slice none 0 0]) rfl rfl rfl rfl (rhC1 _) (Nat.le_refl 5) rfl ?_
     refine TL.nil ?_
     refine TQ.then_n ?_
     refine T.seq ?_
     refine T.region ?_
     refine TL.fieldAddr hF rfl rfl ?_
     refine TL.load hF rfl (own_mem (b := b18) (cs := (rhC y).toArray) (e := 48) (fz := (0, 0)) (by simp) rfl) rfl ?_
     refine TL.fieldAddr hF rfl rfl ?_
     refine TL.load hF rfl (own_mem (b := b15) (cs := (nhC wh).toArray) (e := 43) (fz := (0, 0)) (by simp) rfl) rfl ?_
     refine TL.bin hF rfl rfl rfl rfl ?_
     refine TL.move hF rfl rfl ?_
     refine TL.on rfl rfl rfl (decide_eq_true (by rw [e1])) ?_
     refine TL.fieldAddr hF rfl rfl ?_
     refine TL.on rfl rfl rfl (decide_eq_true (by rw [e1])) ?_
     refine TL.load hF rfl (own_mem (b := b19) (cs := (rhC z).toArray) (e := 48) (fz := (0, 0)) (by simp) rfl) rfl ?_
     refine TL.on rfl rfl rfl (decide_eq_true (by rw [e1])) ?_
     refine TL.fieldAddr hF rfl rfl ?_
     refine TL.on rfl rfl rfl (decide_eq_true (by rw [e1])) ?_
     refine TL.load hF rfl (own_mem (b := b15) (cs := (nhC wh).toArray) (e := 43) (fz := (0, 0)) (by simp) rfl) rfl ?_
     refine TL.on rfl rfl rfl (decide_eq_true (by rw [e1])) ?_
     refine TL.bin hF rfl rfl rfl rfl ?_
     refine TL.pickT hF rfl (decide_eq_true (by rw [e1])) rfl rfl ?_
     refine TL.move hF rfl rfl ?_
     refine TL.on rfl rfl rfl (decide_eq_true (by rw [e2])) ?_
     refine TL.fieldAddr hF rfl rfl ?_
     refine TL.on rfl rfl rfl (decide_eq_true (by rw [e2])) ?_
     refine TL.load hF rfl (own_mem (b := b17) (cs := (rhC x).toArray) (e := 48) (fz := (0, 0)) (by simp) rfl) rfl ?_
     refine TL.on rfl rfl rfl (decide_eq_true (by rw [e2])) ?_
     refine TL.fieldAddr hF rfl rfl ?_
     refine TL.on rfl rfl rfl (decide_eq_true (by rw [e2])) ?_
     refine TL.load hF rfl (own_mem (b := b18) (cs := (rhC y).toArray) (e := 48) (fz := (0, 0)) (by simp) rfl) rfl ?_
     refine TL.on rfl rfl rfl (decide_eq_true (by rw [e2])) ?_
     refine TL.callV hF (keysL_fn (Row.ro hm1.r2) (Row.ro hm2.r4) (by omega)) rfl rfl ?_
     refine TL.pickT hF rfl (decide_eq_true (by rw [e2])) rfl rfl ?_
     refine TL.move hF rfl rfl ?_
     refine TL.on rfl rfl rfl (decide_eq_true (by rw [e3])) ?_
     refine TL.fieldAddr hF rfl rfl ?_
     refine TL.on rfl rfl rfl (decide_eq_true (by rw [e3])) ?_
     refine TL.load hF rfl (own_mem (b := b17) (cs := (rhC x).toArray) (e := 48) (fz := (0, 0)) (by simp) rfl) rfl ?_
     refine TL.on rfl rfl rfl (decide_eq_true (by rw [e3])) ?_
     refine TL.fieldAddr hF rfl rfl ?_
     refine TL.on rfl rfl rfl (decide_eq_true (by rw [e3])) ?_
     refine TL.load hF rfl (own_mem (b := b18) (cs := (rhC y).toArray) (e := 48) (fz := (0, 0)) (by simp) rfl) rfl ?_
     refine TL.on rfl rfl rfl (decide_eq_true (by rw [e3])) ?_
     refine TL.callV hF (keysL_fn (Row.ro hm1.r4) (Row.ro hm2.r2) (by omega)) rfl rfl ?_
     refine TL.pickT hF rfl (decide_eq_true (by rw [e3])) rfl rfl ?_
     refine TL.move hF rfl rfl ?_
     refine TL.on rfl rfl rfl (decide_eq_true (by rw [e4])) ?_
     refine TL.fieldAddr hF rfl rfl ?_
     refine TL.on rfl rfl rfl (decide_eq_true (by rw [e4])) ?_
     refine TL.load hF rfl (own_mem (b := b17) (cs := (rhC x).toArray) (e := 48) (fz := (0, 0)) (by simp) rfl) rfl ?_
     refine TL.on rfl rfl rfl (decide_eq_true (by rw [e4])) ?_
     refine TL.fieldAddr hF rfl rfl ?_
     refine TL.on rfl rfl rfl (decide_eq_true (by rw [e4])) ?_
     refine TL.load hF rfl (own_mem (b := b18) (cs := (rhC y).toArray) (e := 48) (fz := (0, 0)) (by simp) rfl) rfl ?_
     refine TL.on rfl rfl rfl (decide_eq_true (by rw [e4])) ?_
     refine TL.callV hF (keysL_fn (Row.ro hm1.r1) (Row.ro hm2.r1) (by omega)) rfl rfl ?_
     refine TL.pickT hF rfl (decide_eq_true (by rw [e4])) rfl rfl ?_
     refine TL.move hF rfl rfl ?_
     refine TL.on rfl rfl rfl (decide_eq_true (by rw [e5])) ?_
     refine TL.fieldAddr hF rfl rfl ?_
     refine TL.on rfl rfl rfl (decide_eq_true (by rw [e5])) ?_
     refine TL.load hF rfl (own_mem (b := b17) (cs := (rhC x).toArray) (e := 48) (fz := (0, 0)) (by simp) rfl) rfl ?_
     refine TL.on rfl rfl rfl (decide_eq_true (by rw [e5])) ?_
     refine TL.fieldAddr hF rfl rfl ?_
     refine TL.on rfl rfl rfl (decide_eq_true (by rw [e5])) ?_
     refine TL.load hF rfl (own_mem (b := b18) (cs := (rhC y).toArray) (e := 48) (fz := (0, 0)) (by simp) rfl) rfl ?_
     refine TL.on rfl rfl rfl (decide_eq_true (by rw [e5])) ?_
     refine TL.callV hF (keysL_fn (Row.ro hm1.r3) (Row.ro hm2.r3) (by omega)) rfl rfl ?_
     refine TL.pickT hF rfl (decide_eq_true (by rw [e5])) rfl rfl ?_
     refine TL.move hF rfl rfl ?_
     refine TL.on rfl rfl rfl (decide_eq_true (by rw [e6])) ?_
     refine TL.fieldAddr hF rfl rfl ?_
     refine TL.on rfl rfl rfl (decide_eq_true (by rw [e6])) ?_
     refine TL.load hF rfl (own_mem (b := b19) (cs := (rhC z).toArray) (e := 48) (fz := (0, 0)) (by simp) rfl) rfl ?_
     refine TL.on rfl rfl rfl (decide_eq_true (by rw [e6])) ?_
     refine TL.len hF rfl rfl ?_
     refine TL.on rfl rfl rfl (decide_eq_true (by rw [e6])) ?_
     refine TL.fieldAddr hF rfl rfl ?_
     refine TL.on rfl rfl rfl (decide_eq_true (by rw [e6])) ?_
     refine TL.load hF rfl (own_mem (b := b19) (cs := (rhC z).toArray) (e := 48) (fz := (0, 0)) (by simp) rfl) rfl ?_
     refine TL.on rfl rfl rfl (decide_eq_true (by rw [e6])) ?_
     refine TL.len hF rfl rfl ?_
     refine TL.on rfl rfl rfl (decide_eq_true (by rw [e6])) ?_
     refine TL.add hF rfl rfl (by rw [e7, e8]; decide) (by rw [e7, e8]; decide) rfl ?_
     refine TL.on rfl rfl rfl (decide_eq_true (by rw [e6])) ?_
     refine TL.fieldAddr hF rfl rfl ?_
     refine TL.on rfl rfl rfl (decide_eq_true (by rw [e6])) ?_
     refine TL.load hF rfl (own_mem (b := b19) (cs := (rhC z).toArray) (e := 48) (fz := (0, 0)) (by simp) rfl) rfl ?_
     refine TL.on rfl rfl rfl (decide_eq_true (by rw [e6])) ?_
     refine TL.len hF rfl rfl ?_
     refine TL.on rfl rfl rfl (decide_eq_true (by rw [e6])) ?_
     refine TL.add hF rfl rfl (by rw [e7, e8, e9]; decide) (by rw [e7, e8, e9]; decide) rfl ?_
     refine TL.on rfl rfl rfl (decide_eq_true (by rw [e6])) ?_
     refine TL.bin hF rfl rfl rfl rfl ?_
     refine TL.pickT hF rfl (decide_eq_true (by rw [e6])) rfl rfl ?_
     refine TL.move hF rfl rfl ?_
     refine TL.on rfl rfl rfl (by rw [e7, e8, e9]; rfl) ?_
     refine TL.fieldAddr hF rfl rfl ?_
     refine TL.on rfl rfl rfl (by rw [e7, e8, e9]; rfl) ?_
     refine TL.load hF rfl (own_mem (b := b19) (cs := (rhC z).toArray) (e := 48) (fz := (0, 0)) (by simp) rfl) rfl ?_
     refine TL.on rfl rfl rfl (by rw [e7, e8, e9]; rfl) ?_
     refine TL.len hF rfl rfl ?_
     refine TL.on rfl rfl rfl (by rw [e7, e8, e9]; rfl) ?_
     refine TL.move hF rfl rfl ?_
     refine TL.on rfl rfl rfl (by rw [e7, e8, e9]; rfl) ?_
     refine TL.len hF rfl rfl ?_
     refine TL.on rfl rfl rfl (by rw [e7, e8, e9]; rfl) ?_
     refine TL.bin hF rfl rfl rfl rfl ?_
     refine TL.pickT hF rfl (by rw [e7, e8, e9]; rfl) rfl rfl ?_
     refine TL.move hF rfl rfl ?_
     refine TL.on rfl rfl rfl (decide_eq_true (by rw [e10])) ?_
     refine TL.call hF (traced_law hT) rfl rfl ?_
     rintro _ _ rfl
     refine TL.pickT hF rfl (decide_eq_true (by rw [e10])) rfl rfl ?_
     refine TL.assign hF rfl rfl ?_
     refine TL.nil ?_
     refine TQ.then_n ?_
     refine T.ret ?_
     exact TQ.retsF [4] _ hb rfl rfl rfl (fun _ => rfl)
    ·refine TL.alloc hF rfl (fun b18 => ?_)
     refine TL.finK ⟨⟨_, rfl, _, _, [(91, _, some 1)], rfl, rfl, ⟨⟨rfl, rfl, rfl⟩, trivial⟩, fun ext => TL.loadA hF (rhC x) rfl rfl (fun j v hj => (hla.atA (i := 0) (by simp) j v hj).up (by simp)) rfl TL.fin⟩, ⟨_, rfl, _, _, [(94, _, some 4)], rfl, rfl, ⟨⟨rfl, rfl, rfl⟩, trivial⟩, fun ext => TL.loadA hF (rhC y) rfl rfl (fun j v hj => (hla.atA (i := 1) (by simp) j v hj).up (by simp)) rfl TL.fin⟩, ⟨_, rfl, _, _, [(97, _, some 7)], rfl, rfl, ⟨⟨rfl, rfl, rfl⟩, trivial⟩, fun ext => TL.loadA hF (rhC z) rfl rfl (fun j v hj => (hla.atA (i := 2) (by simp) j v hj).up (by simp)) rfl TL.fin⟩, trivial⟩ ?_
     refine DH.k1 (by kernel_rfl) (by kernel_rfl) (by kernel_rfl) (by kernel_rfl) (HBK.mk (h := 9) [2, 5, 8] [] rfl rfl rfl trivial (by kernel_rfl) (fun ext => ?_))
     refine TL.alloc hF rfl (fun b17 => ?_)
     refine TL.finK ⟨⟨_, rfl, _, _, [(91, _, some 1)], rfl, rfl, ⟨⟨rfl, rfl, rfl⟩, trivial⟩, fun ext => TL.loadA hF (rhC x) rfl rfl (fun j v hj => (hla.atA (i := 0) (by simp) j v hj).up (by simp)) rfl TL.fin⟩, ⟨_, rfl, _, _, [(94, _, some 4)], rfl, rfl, ⟨⟨rfl, rfl, rfl⟩, trivial⟩, fun ext => TL.loadA hF (rhC y) rfl rfl (fun j v hj => (hla.atA (i := 1) (by simp) j v hj).up (by simp)) rfl TL.fin⟩, ⟨_, rfl, _, _, [(97, _, some 7)], rfl, rfl, ⟨⟨rfl, rfl, rfl⟩, trivial⟩, fun ext => TL.loadA hF (rhC z) rfl rfl (fun j v hj => (hla.atA (i := 2) (by simp) j v hj).up (by simp)) rfl TL.fin⟩, trivial⟩ ?_
     refine DH.k1 (by kernel_rfl) (by kernel_rfl) (by kernel_rfl) (by kernel_rfl) (HBK.mk (h := 12) [5, 8] [(17, _, some 9), (92, _, some 2)] rfl rfl rfl ⟨⟨rfl, rfl, rfl⟩, ⟨rfl, rfl, rfl⟩, trivial⟩ (by kernel_rfl) (fun ext => ?_))
     first | refine TL.storeAs hF (rhC x) (rhC x) 0 (cs := [.int .i64 0, .slice none 0 0, .slice none 0 0, .slice none 0 0, .slice none 0 0]) rfl rfl rfl rfl (rhC1 _) (Nat.le_refl 5) rfl ?_ | refine TL.storeAs hF (rhC x) (rhC x) 1 (cs := [.int .i64 0, .slice none 0 0, .slice none 0 0, .slice none 0 0, .slice none 0 0]) rfl rfl rfl rfl (rhC1 _) (Nat.le_refl 5) rfl ?_ | refine TL.storeAs hF (rhC x) (rhC x) 2 (cs := [.int .i64 0, .slice none 0 0, .slice none 0 0, .slice none 0 0, .slice none 0 0]) rfl rfl rfl rfl (rhC1 _) (Nat.le_refl 5) rfl ?_
     refine TL.finKN ⟨⟨_, rfl, _, _, [(94, _, some 4)], rfl, rfl, ⟨⟨rfl, rfl, rfl⟩, trivial⟩, fun ext => TL.loadA hF (rhC y) rfl rfl (fun j v hj => (hla.atA (i := 1) (by simp) j v hj).up (by simp)) rfl TL.fin⟩, ⟨_, rfl, _, _, [(97, _, some 7)], rfl, rfl, ⟨⟨rfl, rfl, rfl⟩, trivial⟩, fun ext => TL.loadA hF (rhC z) rfl rfl (fun j v hj => (hla.atA (i := 2) (by simp) j v hj).up (by simp)) rfl TL.fin⟩, trivial⟩ ?_
     refine DH.k1 (by kernel_rfl) (by kernel_rfl) (by kernel_rfl) (by kernel_rfl) (HBK.mk (h := 13) [8] [(18, _, some 10), (95, _, some 5)] rfl rfl rfl ⟨⟨rfl, rfl, rfl⟩, ⟨rfl, rfl, rfl⟩, trivial⟩ (by kernel_rfl) (fun ext => ?_))
     first | refine TL.storeAs hF (rhC y) (rhC y) 0 (cs := [.int .i64 0, .slice none 0 0, .slice none 0 0, .slice none 0 0, .slice none 0 0]) rfl rfl rfl rfl (rhC1 _) (Nat.le_refl 5) rfl ?_ | refine TL.storeAs hF (rhC y) (rhC y) 1 (cs := [.int .i64 0, .slice none 0 0, .slice none 0 0, .slice none 0 0, .slice none 0 0]) rfl rfl rfl rfl (rhC1 _) (Nat.le_refl 5) rfl ?_ | refine TL.storeAs hF (rhC y) (rhC y) 2 (cs := [.int .i64 0, .slice none 0 0, .slice none 0 0, .slice none 0 0, .slice none 0 0]) rfl rfl rfl rfl (rhC1 _) (Nat.le_refl 5) rfl ?_
     refine TL.finKN ⟨⟨_, rfl, _, _, [(97, _, some 7)], rfl, rfl, ⟨⟨rfl, rfl, rfl⟩, trivial⟩, fun ext => TL.loadA hF (rhC z) rfl rfl (fun j v hj => (hla.atA (i := 2) (by simp) j v hj).up (by simp)) rfl TL.fin⟩, trivial⟩ ?_
     refine DH.done [(17, _), (18, _), (19, _), (98, _), (97, _), (96, _), (95, _), (94, _), (93, _), (92, _), (91, _), (90, _)] [_] (by kernel_rfl) (by kernel_rfl) (by kernel_rfl) (by kernel_rfl) rfl rfl ?_
     first | refine TL.storeAs hF (rhC z) (rhC z) 0 (cs := [.int .i64 0, .slice none 0 0, .slice none 0 0, .slice none 0 0, .slice none 0 0]) rfl rfl rfl rfl (rhC1 _) (Nat.le_refl 5) rfl ?_ | refine TL.storeAs hF (rhC z) (rhC z) 1 (cs := [.int .i64 0, .slice none 0 0, .slice none 0 0, .slice none 0 0, .slice none 0 0]) rfl rfl rfl rfl (rhC1 _) (Nat.le_refl 5) rfl ?_ | refine TL.storeAs hF (rhC z) (rhC z) 2 (cs := [.int .i64 0, .slice none 0 0, .slice none 0 0, .slice none 0 0, .slice none 0 0]) rfl rfl rfl rfl (rhC1 _) (Nat.le_refl 5) rfl ?_
     refine TL.nil ?_
     refine TQ.then_n ?_
     refine T.seq ?_
     refine T.region ?_
     refine TL.fieldAddr hF rfl rfl ?_
     refine TL.load hF rfl (own_mem (b := b18) (cs := (rhC y).toArray) (e := 48) (fz := (0, 0)) (by simp) rfl) rfl ?_
     refine TL.fieldAddr hF rfl rfl ?_
     refine TL.load hF rfl (own_mem (b := b15) (cs := (nhC wh).toArray) (e := 43) (fz := (0, 0)) (by simp) rfl) rfl ?_
     refine TL.bin hF rfl rfl rfl rfl ?_
     refine TL.move hF rfl rfl ?_
     refine TL.on rfl rfl rfl (decide_eq_true (by rw [e1])) ?_
     refine TL.fieldAddr hF rfl rfl ?_
     refine TL.on rfl rfl rfl (decide_eq_true (by rw [e1])) ?_
     refine TL.load hF rfl (own_mem (b := b19) (cs := (rhC z).toArray) (e := 48) (fz := (0, 0)) (by simp) rfl) rfl ?_
     refine TL.on rfl rfl rfl (decide_eq_true (by rw [e1])) ?_
     refine TL.fieldAddr hF rfl rfl ?_
     refine TL.on rfl rfl rfl (decide_eq_true (by rw [e1])) ?_
     refine TL.load hF rfl (own_mem (b := b15) (cs := (nhC wh).toArray) (e := 43) (fz := (0, 0)) (by simp) rfl) rfl ?_
     refine TL.on rfl rfl rfl (decide_eq_true (by rw [e1])) ?_
     refine TL.bin hF rfl rfl rfl rfl ?_
     refine TL.pickT hF rfl (decide_eq_true (by rw [e1])) rfl rfl ?_
     refine TL.move hF rfl rfl ?_
     refine TL.on rfl rfl rfl (decide_eq_true (by rw [e2])) ?_
     refine TL.fieldAddr hF rfl rfl ?_
     refine TL.on rfl rfl rfl (decide_eq_true (by rw [e2])) ?_
     refine TL.load hF rfl (own_mem (b := b17) (cs := (rhC x).toArray) (e := 48) (fz := (0, 0)) (by simp) rfl) rfl ?_
     refine TL.on rfl rfl rfl (decide_eq_true (by rw [e2])) ?_
     refine TL.fieldAddr hF rfl rfl ?_
     refine TL.on rfl rfl rfl (decide_eq_true (by rw [e2])) ?_
     refine TL.load hF rfl (own_mem (b := b18) (cs := (rhC y).toArray) (e := 48) (fz := (0, 0)) (by simp) rfl) rfl ?_
     refine TL.on rfl rfl rfl (decide_eq_true (by rw [e2])) ?_
     refine TL.callV hF (keysL_fn (Row.ro hm1.r2) (Row.ro hm2.r4) (by omega)) rfl rfl ?_
     refine TL.pickT hF rfl (decide_eq_true (by rw [e2])) rfl rfl ?_
     refine TL.move hF rfl rfl ?_
     refine TL.on rfl rfl rfl (decide_eq_true (by rw [e3])) ?_
     refine TL.fieldAddr hF rfl rfl ?_
     refine TL.on rfl rfl rfl (decide_eq_true (by rw [e3])) ?_
     refine TL.load hF rfl (own_mem (b := b17) (cs := (rhC x).toArray) (e := 48) (fz := (0, 0)) (by simp) rfl) rfl ?_
     refine TL.on rfl rfl rfl (decide_eq_true (by rw [e3])) ?_
     refine TL.fieldAddr hF rfl rfl ?_
     refine TL.on rfl rfl rfl (decide_eq_true (by rw [e3])) ?_
     refine TL.load hF rfl (own_mem (b := b18) (cs := (rhC y).toArray) (e := 48) (fz := (0, 0)) (by simp) rfl) rfl ?_
     refine TL.on rfl rfl rfl (decide_eq_true (by rw [e3])) ?_
     refine TL.callV hF (keysL_fn (Row.ro hm1.r4) (Row.ro hm2.r2) (by omega)) rfl rfl ?_
     refine TL.pickT hF rfl (decide_eq_true (by rw [e3])) rfl rfl ?_
     refine TL.move hF rfl rfl ?_
     refine TL.on rfl rfl rfl (decide_eq_true (by rw [e4])) ?_
     refine TL.fieldAddr hF rfl rfl ?_
     refine TL.on rfl rfl rfl (decide_eq_true (by rw [e4])) ?_
     refine TL.load hF rfl (own_mem (b := b17) (cs := (rhC x).toArray) (e := 48) (fz := (0, 0)) (by simp) rfl) rfl ?_
     refine TL.on rfl rfl rfl (decide_eq_true (by rw [e4])) ?_
     refine TL.fieldAddr hF rfl rfl ?_
     refine TL.on rfl rfl rfl (decide_eq_true (by rw [e4])) ?_
     refine TL.load hF rfl (own_mem (b := b18) (cs := (rhC y).toArray) (e := 48) (fz := (0, 0)) (by simp) rfl) rfl ?_
     refine TL.on rfl rfl rfl (decide_eq_true (by rw [e4])) ?_
     refine TL.callV hF (keysL_fn (Row.ro hm1.r1) (Row.ro hm2.r1) (by omega)) rfl rfl ?_
     refine TL.pickT hF rfl (decide_eq_true (by rw [e4])) rfl rfl ?_
     refine TL.move hF rfl rfl ?_
     refine TL.on rfl rfl rfl (decide_eq_true (by rw [e5])) ?_
     refine TL.fieldAddr hF rfl rfl ?_
     refine TL.on rfl rfl rfl (decide_eq_true (by rw [e5])) ?_
     refine TL.load hF rfl (own_mem (b := b17) (cs := (rhC x).toArray) (e := 48) (fz := (0, 0)) (by simp) rfl) rfl ?_
     refine TL.on rfl rfl rfl (decide_eq_true (by rw [e5])) ?_
     refine TL.fieldAddr hF rfl rfl ?_
     refine TL.on rfl rfl rfl (decide_eq_true (by rw [e5])) ?_
     refine TL.load hF rfl (own_mem (b := b18) (cs := (rhC y).toArray) (e := 48) (fz := (0, 0)) (by simp) rfl) rfl ?_
     refine TL.on rfl rfl rfl (decide_eq_true (by rw [e5])) ?_
     refine TL.callV hF (keysL_fn (Row.ro hm1.r3) (Row.ro hm2.r3) (by omega)) rfl rfl ?_
     refine TL.pickT hF rfl (decide_eq_true (by rw [e5])) rfl rfl ?_
     refine TL.move hF rfl rfl ?_
     refine TL.on rfl rfl rfl (decide_eq_true (by rw [e6])) ?_
     refine TL.fieldAddr hF rfl rfl ?_
     refine TL.on rfl rfl rfl (decide_eq_true (by rw [e6])) ?_
     refine TL.load hF rfl (own_mem (b := b19) (cs := (rhC z).toArray) (e := 48) (fz := (0, 0)) (by simp) rfl) rfl ?_
     refine TL.on rfl rfl rfl (decide_eq_true (by rw [e6])) ?_
     refine TL.len hF rfl rfl ?_
     refine TL.on rfl rfl rfl (decide_eq_true (by rw [e6])) ?_
     refine TL.fieldAddr hF rfl rfl ?_
     refine TL.on rfl rfl rfl (decide_eq_true (by rw [e6])) ?_
     refine TL.load hF rfl (own_mem (b := b19) (cs := (rhC z).toArray) (e := 48) (fz := (0, 0)) (by simp) rfl) rfl ?_
     refine TL.on rfl rfl rfl (decide_eq_true (by rw [e6])) ?_
     refine TL.len hF rfl rfl ?_
     refine TL.on rfl rfl rfl (decide_eq_true (by rw [e6])) ?_
     refine TL.add hF rfl rfl (by rw [e7, e8]; decide) (by rw [e7, e8]; decide) rfl ?_
     refine TL.on rfl rfl rfl (decide_eq_true (by rw [e6])) ?_
     refine TL.fieldAddr hF rfl rfl ?_
     refine TL.on rfl rfl rfl (decide_eq_true (by rw [e6])) ?_
     refine TL.load hF rfl (own_mem (b := b19) (cs := (rhC z).toArray) (e := 48) (fz := (0, 0)) (by simp) rfl) rfl ?_
     refine TL.on rfl rfl rfl (decide_eq_true (by rw [e6])) ?_
     refine TL.len hF rfl rfl ?_
     refine TL.on rfl rfl rfl (decide_eq_true (by rw [e6])) ?_
     refine TL.add hF rfl rfl (by rw [e7, e8, e9]; decide) (by rw [e7, e8, e9]; decide) rfl ?_
     refine TL.on rfl rfl rfl (decide_eq_true (by rw [e6])) ?_
     refine TL.bin hF rfl rfl rfl rfl ?_
     refine TL.pickT hF rfl (decide_eq_true (by rw [e6])) rfl rfl ?_
     refine TL.move hF rfl rfl ?_
     refine TL.on rfl rfl rfl (by rw [e7, e8, e9]; rfl) ?_
     refine TL.fieldAddr hF rfl rfl ?_
     refine TL.on rfl rfl rfl (by rw [e7, e8, e9]; rfl) ?_
     refine TL.load hF rfl (own_mem (b := b19) (cs := (rhC z).toArray) (e := 48) (fz := (0, 0)) (by simp) rfl) rfl ?_
     refine TL.on rfl rfl rfl (by rw [e7, e8, e9]; rfl) ?_
     refine TL.len hF rfl rfl ?_
     refine TL.on rfl rfl rfl (by rw [e7, e8, e9]; rfl) ?_
     refine TL.move hF rfl rfl ?_
     refine TL.on rfl rfl rfl (by rw [e7, e8, e9]; rfl) ?_
     refine TL.len hF rfl rfl ?_
     refine TL.on rfl rfl rfl (by rw [e7, e8, e9]; rfl) ?_
     refine TL.bin hF rfl rfl rfl rfl ?_
     refine TL.pickT hF rfl (by rw [e7, e8, e9]; rfl) rfl rfl ?_
     refine TL.move hF rfl rfl ?_
     refine TL.on rfl rfl rfl (decide_eq_true (by rw [e10])) ?_
     refine TL.call hF (traced_law hT) rfl rfl ?_
     rintro _ _ rfl
     refine TL.pickT hF rfl (decide_eq_true (by rw [e10])) rfl rfl ?_
     refine TL.assign hF rfl rfl ?_
     refine TL.nil ?_
     refine TQ.then_n ?_
     refine T.ret ?_
     exact TQ.retsF [4] _ hb rfl rfl rfl (fun _ => rfl)
end Go.Proofs.YtdiacobmhkmljaaDoor
namespace Go.Proofs.YtdiacobmhkmljaaDoor
open Go.Sl Go.ChangeShapes Go.WideShapes Go.ChangeAt Go.RowKit
set_option maxRecDepth 100000 in
theorem traceBack_lifted (os : Os) (started : os.Started) (H : Type) (enc : TypeId × Value → H) :
    ReturnsInHanded {} Tryd.checked os 5 .any (fun w args => (Rows.traceBackSpec.pre enc Tryd.prog Tryd.f5 [] false w args ∧ laidMetH Tryd.prog laidL w) ∧ sizedMet enc Tryd.prog Tryd.f5 (OpenSpec.ofChange Rows.traceBackSpec) false w args)
      (Rows.traceBackSpec.post enc Tryd.prog Tryd.f5 false true false false) := by
  refine returnsInHanded_of_change_and (C := Tryd.checked) (X := fun w _ => laidMetH Tryd.prog laidL w) (fun _ _ _ hh h => h.of_heap hh) Tryd.own started (by kernel_rfl) Tryd.func5
    (ChangeSpec.witness_shaped (enc := enc) (C := Tryd.checked) (os := os) (X := fun w _ => laidMetH Tryd.prog laidL w) false (World.doorLaid Tryd.prog 2000 os) #[.slice none 0 0, .slice none 0 0] 8 rfl (World.shaped_of_RefB (by kernel_rfl) (by kernel_rfl)) (by kernel_rfl) (by kernel_rfl) (by kernel_rfl) (door_met os _)) ?_
  intro W base args ds gs before hval0 hW _ hwt hL _
  have hval' : ∀ (j : Nat) t v, Tryd.f5.params[j]? = some t → args[j]? = some v → Value.okWide Tryd.prog W .any base t v := hval0
  have hW' := hW
  obtain ⟨p, q, hA0, hV, rfl, hfz, hnd⟩ := hW
  have hA : DataW.TrodAll enc Tryd.prog W 0 (fun _ => true) true [22, 22] args.toList ds p := hA0
  obtain ⟨v0, v1, d0, d1, p0, p1, rfl, rfl, rfl, h0, h1⟩ := trodAll_two hA
  obtain ⟨_, _, _, rfl⟩ := okWide_slice u22 (hval' 0 22 v0 rfl rfl)
  obtain ⟨_, h0⟩ := h0
  obtain ⟨a0, xs0, c0, e0, hx0, hl0, hb0⟩ := ints_arg h0
  obtain ⟨_, _, _, rfl⟩ := okWide_slice u22 (hval' 1 22 v1 rfl rfl)
  obtain ⟨_, h1⟩ := h1
  obtain ⟨a1, xs1, c1, e1, hx1, hl1, hb1⟩ := ints_arg h1
  rw [e0, e1] at hW' ⊢
  refine (calls_true (TraceBack_fn (tabs_of_laid hL) hx0 hl0 hb0 hx1 hl1 hb1)).mono fun e W' ⟨he, hw⟩ => ⟨_, he, ?_⟩
  exact law_post (f := Tryd.f5) Tryd.laidOut rfl 4 rfl u4 hW' rfl (by decide +kernel) hw
theorem traceBack_said : Rows.TraceBackSaid :=
  OpenClaim.holds_of_wide 5 Tryd.f5 rfl rfl rfl rfl rfl rfl rfl ⟨rfl, rfl, rfl, rfl, rfl⟩ rfl rfl rfl rfl rfl (by kernel_rfl) Tryd.func5 (by kernel_rfl)
    (of_decide_eq_true (by kernel_rfl)) (by unfold Func.isWrapper; first | (rw [if_pos (by decide +kernel)]; kernel_rfl) | (rw [if_neg (by decide +kernel)]; exact ⟨rfl, rfl⟩))
    (fun os started H enc _ => traceBack_lifted os started H enc)
theorem traceBack_holds : Rows.TraceBackCardSaid :=
  Claim7.holds_tied_plain_at .later [] [.funcs, .data] true (true, "9424b675a5bf1259037b7c80c1e1d1308b039b71f1eedf5d2444196735f82e90") false
    traceBack_said (fun _ h => by cases h) (by kernel_rfl) (fun _ h => by cases h) traceBack_row_tie rfl ⟨rfl, rfl⟩ (by kernel_rfl) rfl
    (fun f fn hf hfn => by
      obtain rfl : f = 5 := Option.some.inj ((show Tryd.prog.funcNamed "deltaworks/deltaworkslaw24.TraceBack" = some 5 by kernel_rfl).symm.trans hf) |>.symm
      obtain rfl : fn = Tryd.f5 := (Option.some.inj (Tryd.func5.symm.trans hfn)).symm
      exact ⟨by kernel_rfl, fun j t ht => by
        have ht2 : (#[22, 22] : Array TypeId)[j]? = some t := ht
        have hm : t ∈ ([22, 22] : List TypeId) := by simpa using Array.mem_of_getElem? ht2
        have hall : (([22, 22] : List TypeId).all fun u => !Tryd.prog.wantsStandIn u) = true := by kernel_rfl
        exact (show Tryd.prog.wantsStandIn t = false by simpa using List.all_eq_true.1 hall t hm)⟩)
    (by kernel_rfl)
#print axioms traceBack_holds
end Go.Proofs.YtdiacobmhkmljaaDoor
