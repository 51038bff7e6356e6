/- Several texts in one. -/
import Derived.Test.YtefkmiomldhmjaaDoorQb
/- Heights. -/
namespace Go.Proofs.YtefkmiomldhmjaaDoor
open Go.Sl
variable {S : Nat → Prop} {w0 : World} {η : Heap}
theorem stop34 : StopC Tryd.prog 34 35 := ⟨⟨Tryd.f34, _, _, _, _, _, _, _, _, _, Tryd.func34, rfl, rfl, rfl⟩⟩
theorem stop38 : StopC Tryd.prog 38 35 := ⟨⟨Tryd.f38, _, _, _, _, _, _, _, _, _, Tryd.func38, rfl, rfl, rfl⟩⟩
theorem max_step (xs : List Int) (g : Int → Int) (m : Int) (j : Nat) (hj : j < xs.length) : (xs.take (j + 1)).foldl (fun m f => max m (g f)) m = max ((xs.take j).foldl (fun m f => max m (g f)) m) (g xs[j]) := by
  rw [List.take_succ_eq_append_getElem hj, List.foldl_append]; rfl
theorem fold_bound (xs : List Int) (g : Int → Int) (b : Int) (hg : ∀ f ∈ xs, g f ≤ b) : ∀ m, 0 ≤ m → m ≤ b → 0 ≤ xs.foldl (fun m f => max m (g f)) m ∧ xs.foldl (fun m f => max m (g f)) m ≤ b := by
  induction xs with
  | nil => intro m h1 h2; exact ⟨h1, h2⟩
  | cons x xs ih =>
    intro m h1 h2
    have := hg x List.mem_cons_self
    exact ih (fun f hf => hg f (List.mem_cons_of_mem _ hf)) (max m (g x)) (by omega) (by omega)
theorem hgtF_bound (l : List NodeD) : ∀ k i, 0 ≤ hgtF l k i ∧ hgtF l k i ≤ k
  | 0, i => by simp [hgtF]
  | k + 1, i => by
    have ih := hgtF_bound l k
    rw [hgtF_succ]
    by_cases h : i = k
    · subst h
      rw [upd_same]
      exact fold_bound _ (fun f => hgtF l i f.toNat + 1) _ (fun f _ => by have := (ih f.toNat).2; omega) 0 (by omega) (by omega)
    · rw [upd_ne _ _ h]; have := ih i; omega
theorem hgtF_ge (l : List NodeD) : ∀ k i, k ≤ i → hgtF l k i = 0
  | 0, i, _ => rfl
  | k + 1, i, h => by rw [hgtF_succ, upd_ne _ _ (by omega)]; exact hgtF_ge l k i (by omega)
theorem ofinal {n : Nat} {f : Nat → Int} {b : Nat} : OSl 3 1 (.slice (some ⟨b, 0, none⟩) n n) n (ints ((List.range n).map f)) (iseg b n f) := by
  rw [← intC_ints]; exact osl_fresh (by simp [intC_len])
def hgtJ (l : List NodeD) (k j : Nat) : Int := ((nd l k).fr.take j).foldl (fun m f => max m (hgtF l k f.toNat + 1)) 0
theorem hgtJ_bound (l : List NodeD) (k j : Nat) : 0 ≤ hgtJ l k j ∧ hgtJ l k j ≤ k + 1 := fold_bound _ (fun f => hgtF l k f.toNat + 1) _ (fun f _ => by have := (hgtF_bound l k f.toNat).2; omega) 0 (by omega) (by omega)
theorem hgtJ_succ {l : List NodeD} {k j : Nat} (hk : k < l.length) (hj : j < l[k].fr.length) : hgtJ l k (j + 1) = max (hgtJ l k j) (hgtF l k (l[k].fr[j]).toNat + 1) := by
  unfold hgtJ; rw [nd_eq hk]; exact max_step _ (fun f => hgtF l k f.toNat + 1) _ _ hj
theorem hgtJ_end {l : List NodeD} {k j : Nat} (hk : k < l.length) (hj : l[k].fr.length ≤ j) : upd (hgtF l k) k (hgtJ l k j) = hgtF l (k + 1) := by
  rw [hgtF_succ]; unfold hgtJ hgtN; rw [nd_eq hk, List.take_of_length_le hj]
theorem heightsS_ok {l : List NodeD} (h : valid l = true) : heightsS l = ((List.range l.length).map (hgtF l l.length), 0) := by unfold heightsS; rw [if_pos h]
theorem heightsS_no {l : List NodeD} (h : valid l = false) : heightsS l = ([], 1) := by unfold heightsS; rw [if_neg (by simp [h])]

set_option maxHeartbeats 2000000 in
theorem Heights_prog (hg : Kinds S w0) {a : Option Addr} {l : List NodeD} {c : Nat} (hn : Nodes S w0 [] a l) (hl : l.length < 2 ^ 63) (hfl : ∀ x ∈ l, x.fr.length < 2 ^ 63) :
    Rt Tryd.prog 12 [.slice a l.length c].toArray S w0 η (fun v η' => ∃ a cap segs, v = .tuple #[.slice a (heightsS l).1.length cap, .int .i64 (heightsS l).2] ∧ η' = segs ++ η ∧ Row S w0 segs a (ints (heightsS l).1)) := by
  have hF := open_wide
  refine Rt.ofL (fn := Tryd.f12) Tryd.func12 rfl rfl ?_
  refine T.seq ?_
  refine T.region ?_
  refine TL.assign hF rfl rfl ?_
  refine TL.alloc hF rfl (fun b3 => ?_)
  refine TL.nil ?_
  refine TQ.then_n ?_
  refine T.seq ?_
  refine T.region ?_
  refine TL.makeFunc hF rfl rfl rfl ?_
  refine TL.defer hF rfl rfl ?_
  refine TL.nil ?_
  refine TQ.then_n ?_
  refine T.seq ?_
  refine T.region ?_
  refine TL.move hF rfl rfl ?_
  refine TL.callE hF (check_fn hg hn hl hfl) rfl rfl ?_ ?_
  · rintro _ _ ⟨hv, rfl⟩
    have hok := ok_of hv
    have hlen := hok.len
    refine TL.nil ?_
    refine TQ.then_n ?_
    refine T.seq ?_
    refine T.region ?_
    refine TL.move hF rfl rfl ?_
    refine TL.len hF rfl rfl ?_
    refine TL.makeSlice hF rfl rfl rfl (by omega) (by omega) rfl (fun b14 => ?_)
    rw [intC_zero]
    refine TL.assign hF rfl rfl ?_
    refine TL.nil ?_
    refine TQ.then_n ?_
    refine T.seq ?_
    refine T.seq ?_
    refine T.region ?_
    refine TL.move hF rfl rfl ?_
    refine TL.len hF rfl rfl ?_
    refine TL.move hF rfl rfl ?_
    refine TL.nil ?_
    refine TQ.then_n ?_
    refine T.block ?_
    refine T.loop (ι := Nat) (fun k => k ≤ l.length) (fun k => [(2, .slice none 0 0), (3, ptr b3), (4, .slice (some ⟨b14, 0, none⟩) l.length l.length), (15, .slice a l.length c), (16, .int .i64 (l.length : Int)), (17, .int .i64 (k : Int))]) (fun k => iseg b14 l.length (hgtF l k) :: [(b3, .cells #[.int .i64 0] 27 (0, 0))] :: η) (fun k => l.length - k) 0 (Nat.zero_le _) ⟨rfl, rfl, rfl, rfl, rfl, rfl, trivial⟩ rfl ?_
    intro k hk
    refine T.seq ?_
    refine T.region ?_
    refine TL.bin hF rfl rfl rfl rfl ?_
    refine TL.nil ?_
    refine TQ.then_n ?_
    refine T.seq ?_
    first | refine T.cond_d rfl (fun ht18 => ?_) (fun ht18 => ?_) | refine T.cond _ rfl (fun ht18 => ?_) (fun ht18 => ?_)
    · refine T.skip ?_
      refine TQ.then_n ?_
      refine T.seq ?_
      refine T.block ?_
      refine T.seq ?_
      refine T.region ?_
      refine TL.move hF rfl rfl ?_
      refine TL.indexAddr hF rfl rfl (hn.ad (i := k) (by omega)) (by omega) (by omega) rfl ?_
      refine TL.loadA hF (l[k]'(by omega)).cells rfl rfl (hn.ro.atA (i := k) (by omega)) rfl ?_
      refine TL.alloc hF rfl (fun b6 => ?_)
      refine TL.assign hF rfl rfl ?_
      refine TL.storeAI hF (l[k]'(by omega)).cells 0 rfl rfl rfl rfl (ncells1 _) (by simp [Value.cells, ncl]) ?_
      refine TL.nil ?_
      refine TQ.then_n ?_
      refine T.seq ?_
      refine T.region ?_
      refine TL.fieldAddr hF rfl rfl ?_
      refine TL.load hF rfl (by first | exact At.own' (i := 0) rfl rfl | exact At.own' (i := 1) rfl rfl | exact At.own' (i := 2) rfl rfl | exact At.own' (i := 3) rfl rfl | exact At.own' (i := 4) rfl rfl | exact At.own' (i := 5) rfl rfl | exact At.own' (i := 6) rfl rfl | exact At.own' (i := 7) rfl rfl | exact At.own' (i := 8) rfl rfl | exact At.own' (i := 9) rfl rfl | exact At.own' (i := 10) rfl rfl | exact At.own' (i := 11) rfl rfl | exact At.own' (i := 12) rfl rfl) rfl ?_
      refine TL.len hF rfl rfl ?_
      refine TL.move hF rfl rfl ?_
      refine TL.nil ?_
      refine TQ.then_n ?_
      refine T.block ?_
      have hfj := hfl _ (List.getElem_mem (l := l) (n := k) (by omega))
      have hfr := hok.fr k (by omega)
      refine T.loop (ι := Nat) (fun j => j ≤ (l[k]'(by omega)).fr.length) (fun j => [(2, .slice none 0 0), (3, ptr b3), (4, .slice (some ⟨b14, 0, none⟩) l.length l.length), (15, .slice a l.length c), (16, .int .i64 (l.length : Int)), (17, .int .i64 (k : Int)), (5, .int .i64 (k : Int)), (23, .slice (l[k]'(by omega)).fa (l[k]'(by omega)).fr.length (l[k]'(by omega)).fc), (24, .int .i64 ((l[k]'(by omega)).fr.length : Int)), (25, .int .i64 (j : Int))]) (fun j => [(b6, .cells (l[k]'(by omega)).cells.toArray 55 (0, 0))] :: iseg b14 l.length (upd (hgtF l k) k (hgtJ l k j)) :: [(b3, .cells #[.int .i64 0] 27 (0, 0))] :: η) (fun j => (l[k]'(by omega)).fr.length - j) 0 (Nat.zero_le _) ⟨rfl, rfl, rfl, rfl, rfl, rfl, rfl, rfl, rfl, rfl, trivial⟩ (congrArg (fun z : Heap => [(b6, Obj.cells (l[k]'(by omega)).cells.toArray 55 (0, 0))] :: z) (iseg_congr (fun i _ => by
        unfold upd; split
        · rename_i h; subst h; exact hgtF_ge l i i (Nat.le_refl _)
        · rfl))) ?_
      intro j hj
      refine T.seq ?_
      refine T.region ?_
      refine TL.bin hF rfl rfl rfl rfl ?_
      refine TL.nil ?_
      refine TQ.then_n ?_
      refine T.seq ?_
      first | refine T.cond_d rfl (fun ht26 => ?_) (fun ht26 => ?_) | refine T.cond _ rfl (fun ht26 => ?_) (fun ht26 => ?_)
      · refine T.skip ?_
        refine TQ.then_n ?_
        refine T.seq ?_
        refine T.block ?_
        refine T.seq ?_
        refine T.region ?_
        refine TL.indexAddr hF rfl rfl ((hn.frow (i := k) (by omega)).adi (i := j) (by simp; omega)) (by omega) (by omega) rfl ?_
        refine TL.load hF rfl ((hn.frow (i := k) (by omega)).ro.int (i := j) (by omega)) rfl ?_
        refine TL.assign hF rfl rfl ?_
        refine TL.nil ?_
        refine TQ.then_n ?_
        have hf := hfr ((l[k]'(by omega)).fr[j]'(by omega)) (List.getElem_mem _)
        have hb1 := hgtF_bound l k ((l[k]'(by omega)).fr[j]'(by omega)).toNat
        have hu : upd (hgtF l k) k (hgtJ l k j) ((l[k]'(by omega)).fr[j]'(by omega)).toNat = hgtF l k ((l[k]'(by omega)).fr[j]'(by omega)).toNat := upd_ne _ _ (by omega)
        refine T.draw ?_
        refine DR.stepV [_] rfl [(4, _, none)] rfl rfl ⟨⟨rfl, by kernel_rfl⟩, trivial⟩ (fun ext => TL.move hF rfl rfl TL.fin) ?_
        refine DR.stepV [_, _] rfl [(5, _, none)] rfl rfl ⟨⟨rfl, by kernel_rfl⟩, trivial⟩ (fun ext => TL.move hF rfl rfl TL.fin) ?_
        refine DR.stepV [_, _, _] rfl [(4, _, none)] rfl rfl ⟨⟨rfl, by kernel_rfl⟩, trivial⟩ (fun ext => TL.move hF rfl rfl TL.fin) ?_
        refine DR.stepV [_, _, _, _] rfl [(5, _, none)] rfl rfl ⟨⟨rfl, by kernel_rfl⟩, trivial⟩ (fun ext => TL.move hF rfl rfl TL.fin) ?_
        refine DR.stepV [_, _, _, _, _] rfl [(31, _, some 2), (32, _, some 3)] rfl rfl ⟨⟨rfl, rfl, rfl⟩, ⟨rfl, rfl, rfl⟩, trivial⟩ (fun ext => TL.indexAddr hF rfl rfl ⟨_, rfl, rfl⟩ (by omega) (by omega) rfl TL.fin) ?_
        refine DR.stepV [_, _, _, _, _, _] rfl [(33, _, some 4)] rfl rfl ⟨⟨rfl, rfl, rfl⟩, trivial⟩ (fun ext => TL.load hF rfl (iseg_at (f := upd (hgtF l k) k (hgtJ l k j)) (n := l.length) (b := b14) (j := k) (by simp) (by omega)) rfl TL.fin) ?_
        refine DR.stepV [_, _, _, _, _, _, _] rfl [(4, _, none)] rfl rfl ⟨⟨rfl, by kernel_rfl⟩, trivial⟩ (fun ext => TL.move hF rfl rfl TL.fin) ?_
        refine DR.stepV [_, _, _, _, _, _, _, _] rfl [(8, _, none)] rfl rfl ⟨⟨rfl, by kernel_rfl⟩, trivial⟩ (fun ext => TL.move hF rfl rfl TL.fin) ?_
        refine DR.stepV [_, _, _, _, _, _, _, _, _] rfl [(35, _, some 6), (36, _, some 7)] rfl rfl ⟨⟨rfl, rfl, rfl⟩, ⟨rfl, rfl, rfl⟩, trivial⟩ (fun ext => TL.indexAddr hF rfl rfl ⟨_, rfl, rfl⟩ (by omega) (by omega) rfl TL.fin) ?_
        refine DR.stepV [_, _, _, _, _, _, _, _, _, _] rfl [(37, _, some 8)] rfl rfl ⟨⟨rfl, rfl, rfl⟩, trivial⟩ (fun ext => TL.load hF rfl (iseg_at (f := upd (hgtF l k) k (hgtJ l k j)) (n := l.length) (b := b14) (j := ((l[k]'(by omega)).fr[j]'(by omega)).toNat) (by simp) (by omega)) rfl TL.fin) ?_
        refine DR.stepV [_, _, _, _, _, _, _, _, _, _, _] rfl [(38, _, some 9)] rfl rfl ⟨⟨rfl, rfl, rfl⟩, trivial⟩ (fun ext => TL.add hF rfl rfl (by omega) (by omega) rfl TL.fin) ?_
        refine DR.stepV [_, _, _, _, _, _, _, _, _, _, _, _] rfl [(34, _, some 5), (39, _, some 10)] rfl rfl ⟨⟨rfl, rfl, rfl⟩, ⟨rfl, rfl, rfl⟩, trivial⟩ (fun ext => TL.max2 hF rfl rfl rfl TL.fin) ?_
        refine DR.done [(40, _), (39, _), (38, _), (37, _), (36, _), (35, _), (34, _), (33, _), (32, _), (31, _), (30, _), (29, _)] [_, _] mixed (by kernel_rfl) (by kernel_rfl) (by kernel_rfl) rfl rfl ?_
        refine TL.indexAddr hF rfl rfl ⟨_, rfl, rfl⟩ (by omega) (by omega) rfl ?_
        refine TL.storeI hF 1 rfl rfl rfl rfl (by simp [intC_len]; omega) ?_
        refine TL.nil ?_
        refine TQ.block_n ?_
        refine TQ.then_n ?_
        refine T.region ?_
        refine TL.add hF rfl rfl (by omega) (by omega) rfl ?_
        refine TL.move hF rfl rfl ?_
        refine TL.nil ?_
        refine TQ.round (j + 1) (by omega) (by omega) ⟨rfl, rfl, rfl, rfl, rfl, rfl, rfl, rfl, rfl, rfl, trivial⟩ (congrArg (fun z : Heap => [(b6, Obj.cells (l[k]'(by omega)).cells.toArray 55 (0, 0))] :: z) (iseg_set (j := k) (by simp) (fun i _ => by
          by_cases h : i = k
          · subst h; rw [if_pos rfl, upd_same, upd_same, hgtJ_succ (by omega) (by omega), hu]
          · rw [if_neg h, upd_ne _ _ h, upd_ne _ _ h])))
      · refine T.exit ?_
        refine TQ.then_x ?_
        refine TQ.then_x ?_
        refine TQ.block_x ?_
        refine TQ.block_n ?_
        refine TQ.then_n ?_
        refine T.region ?_
        refine TL.add hF rfl rfl (by omega) (by omega) rfl ?_
        refine TL.move hF rfl rfl ?_
        refine TL.nil ?_
        refine TQ.pop ?_
        have hjl : l[k].fr.length ≤ j := by omega
        rw [hgtJ_end (by omega) hjl]
        exact TQ.round (k + 1) (by omega) (by omega) ⟨rfl, rfl, rfl, rfl, rfl, rfl, trivial⟩ rfl
    · refine T.exit ?_
      refine TQ.then_x ?_
      refine TQ.then_x ?_
      refine TQ.block_x ?_
      refine TQ.then_n ?_
      refine T.seq ?_
      refine T.region ?_
      refine TL.move hF rfl rfl ?_
      refine TL.assign hF rfl rfl ?_
      refine TL.storeI hF 1 rfl rfl rfl rfl (by simp) ?_
      refine TL.nil ?_
      refine TQ.then_n ?_
      refine T.ret ?_
      have hkn : k = l.length := by omega
      subst hkn
      refine TQ.retL [2] _ stop34 (stopped_nil _) rfl rfl rfl (At.own' (i := 1) rfl rfl) ?_
      rw [heightsS_ok hv]
      exact ⟨some ⟨b14, 0, none⟩, l.length, [iseg b14 l.length (hgtF l l.length), [(b3, .cells #[.int .i64 0] 27 (0, 0))]], by simp [retVal], rfl, ofinal.row (by simp)⟩
  · rintro _ _ ⟨hv, rfl, rfl⟩
    refine TQ.then_p ?_
    refine TQ.panL [2] [.slice none 0 0] stop34 (stopped_err _) rfl rfl rfl (At.own' (i := 0) rfl rfl) ?_
    rw [heightsS_no hv]
    exact ⟨none, 0, [[(b3, .cells #[.int .i64 1] 27 (0, 0))]], rfl, rfl, Row.none⟩
set_option maxHeartbeats 2000000 in
theorem Heights_ref {a : Option Addr} {l : List NodeD} {c : Nat} (hn : Nodes S w0 [] a l) (hl : l.length < 2 ^ 63) (hfl : ∀ x ∈ l, x.fr.length < 2 ^ 63) :
    Rt Tryd.prog 13 [.slice a l.length c].toArray S w0 η (fun v η' => ∃ a cap segs, v = .tuple #[.slice a (heightsS l).1.length cap, .int .i64 (heightsS l).2] ∧ η' = segs ++ η ∧ Row S w0 segs a (ints (heightsS l).1)) := by
  have hF := open_wide
  refine Rt.of (fn := Tryd.f13) Tryd.func13 rfl rfl ?_
  refine T.seq ?_
  refine T.region ?_
  refine TL.assign hF rfl rfl ?_
  refine TL.assign hF rfl rfl ?_
  refine TL.nil ?_
  refine TQ.then_n ?_
  refine T.seq ?_
  refine T.seq ?_
  refine T.region ?_
  refine TL.move hF rfl rfl ?_
  refine TL.callV hF (Valid_fn hn hl hfl) rfl rfl ?_
  refine TL.not hF rfl rfl ?_
  refine TL.nil ?_
  refine TQ.then_n ?_
  refine T.cond _ rfl (fun hv => ?_) (fun hv => ?_)
  · refine T.seq ?_
    refine T.region ?_
    refine TL.assign hF rfl rfl ?_
    refine TL.assign hF rfl rfl ?_
    refine TL.nil ?_
    refine TQ.then_n ?_
    refine T.ret ?_
    refine TQ.then_r ?_
    refine TQ.rets [2, 3] _ rfl rfl rfl ?_
    simp at hv
    rw [heightsS_no hv]
    exact ⟨none, 0, [], rfl, rfl, Row.none⟩
  · refine T.skip ?_
    refine TQ.then_n ?_
    refine T.seq ?_
    refine T.region ?_
    refine TL.assign hF rfl rfl ?_
    refine TL.nil ?_
    refine TQ.then_n ?_
    refine T.seq ?_
    refine T.seq ?_
    refine T.region ?_
    refine TL.assign hF rfl rfl ?_
    refine TL.nil ?_
    refine TQ.then_n ?_
    refine T.block ?_
    simp at hv
    have hok := ok_of hv
    have hlen := hok.len
    refine T.hnil ?_
    refine T.loop (ι := Nat × Option Addr × Nat × Seg) (fun i => i.1 ≤ l.length ∧ OSl 3 1 (.slice i.2.1 i.1 i.2.2.1) i.1 (intC i.1 (hgtF l i.1)) i.2.2.2) (fun i => [(0, .slice a l.length c), (2, .slice none 0 0), (3, .int .i64 0), (4, .slice i.2.1 i.1 i.2.2.1), (5, .int .i64 (i.1 : Int))]) (fun i => i.2.2.2 :: η) (fun i => l.length - i.1) (0, none, 0, []) ⟨Nat.zero_le _, OSl.nil 3 1⟩ ⟨rfl, rfl, rfl, rfl, rfl, trivial⟩ rfl ?_
    rintro ⟨k, oa, oc, og⟩ ⟨hk, ho⟩
    simp only at hk ho
    refine T.seq ?_
    refine T.seq ?_
    refine T.region ?_
    refine TL.move hF rfl rfl ?_
    refine TL.move hF rfl rfl ?_
    refine TL.len hF rfl rfl ?_
    refine TL.bin hF rfl rfl rfl rfl ?_
    refine TL.nil ?_
    refine TQ.then_n ?_
    first | refine T.cond_d rfl (fun ht14 => ?_) (fun ht14 => ?_) | refine T.cond _ rfl (fun ht14 => ?_) (fun ht14 => ?_)
    · refine T.skip ?_
      refine TQ.then_n ?_
      refine T.seq ?_
      refine T.block ?_
      refine T.seq ?_
      refine T.region ?_
      refine TL.assign hF rfl rfl ?_
      refine TL.nil ?_
      refine TQ.then_n ?_
      refine T.seq ?_
      refine T.seq ?_
      refine T.region ?_
      refine TL.assign hF rfl rfl ?_
      refine TL.nil ?_
      refine TQ.then_n ?_
      refine T.block ?_
      have hfj := hfl _ (List.getElem_mem (l := l) (n := k) (by omega))
      have hfr := hok.fr k (by omega)
      refine T.loop (ι := Nat) (fun j => j ≤ (l[k]'(by omega)).fr.length) (fun j => [(0, .slice a l.length c), (2, .slice none 0 0), (3, .int .i64 0), (4, .slice oa k oc), (5, .int .i64 (k : Int)), (6, .int .i64 (hgtJ l k j)), (7, .int .i64 (j : Int))]) (fun _ => og :: η) (fun j => (l[k]'(by omega)).fr.length - j) 0 (Nat.zero_le _) ⟨rfl, rfl, rfl, rfl, rfl, rfl, rfl, trivial⟩ rfl ?_
      intro j hj
      refine T.seq ?_
      refine T.seq ?_
      refine T.region ?_
      refine TL.move hF rfl rfl ?_
      refine TL.move hF rfl rfl ?_
      refine TL.move hF rfl rfl ?_
      refine TL.indexAddr hF rfl rfl (hn.ad (i := k) (by omega)) (by omega) (by omega) rfl ?_
      refine TL.fieldAddr hF rfl rfl ?_
      refine TL.load hF rfl (hn.ro.at (i := k) (by omega) 2 rfl) rfl ?_
      refine TL.len hF rfl rfl ?_
      refine TL.bin hF rfl rfl rfl rfl ?_
      refine TL.nil ?_
      refine TQ.then_n ?_
      first | refine T.cond_d rfl (fun ht24 => ?_) (fun ht24 => ?_) | refine T.cond _ rfl (fun ht24 => ?_) (fun ht24 => ?_)
      · refine T.skip ?_
        refine TQ.then_n ?_
        refine T.seq ?_
        refine T.block ?_
        refine T.region ?_
        refine TL.move hF rfl rfl ?_
        refine TL.move hF rfl rfl ?_
        refine TL.move hF rfl rfl ?_
        refine TL.move hF rfl rfl ?_
        refine TL.indexAddr hF rfl rfl (hn.ad (i := k) (by omega)) (by omega) (by omega) rfl ?_
        refine TL.fieldAddr hF rfl rfl ?_
        refine TL.load hF rfl (hn.ro.at (i := k) (by omega) 2 rfl) rfl ?_
        refine TL.move hF rfl rfl ?_
        refine TL.indexAddr hF rfl rfl ((hn.frow (i := k) (by omega)).adi (i := j) (by simp; omega)) (by omega) (by omega) rfl ?_
        refine TL.load hF rfl ((hn.frow (i := k) (by omega)).ro.int (i := j) (by omega)) rfl ?_
        have hf := hfr ((l[k]'(by omega)).fr[j]'(by omega)) (List.getElem_mem _)
        have hb1 := hgtF_bound l k ((l[k]'(by omega)).fr[j]'(by omega)).toNat
        have hr : Row S w0 (og :: η) oa (intC k (hgtF l k)) := ho.row (by simp)
        refine TL.indexAddr hF rfl rfl (hr.adi (i := ((l[k]'(by omega)).fr[j]'(by omega)).toNat) (by simp [intC_len]; omega)) (by omega) (by omega) rfl ?_
        refine TL.load hF rfl (by rw [Nat.mul_one]; exact hr.cell _ _ (intC_get (f := hgtF l k) (by omega))) rfl ?_
        refine TL.add hF rfl rfl (by omega) (by omega) rfl ?_
        refine TL.max2 hF rfl rfl rfl ?_
        refine TL.assign hF rfl rfl ?_
        refine TL.nil ?_
        refine TQ.block_n ?_
        refine TQ.then_n ?_
        refine T.region ?_
        refine TL.move hF rfl rfl ?_
        refine TL.add hF rfl rfl (by omega) (by omega) rfl ?_
        refine TL.assign hF rfl rfl ?_
        refine TL.nil ?_
        refine TQ.round (j + 1) (by omega) (by omega) ⟨rfl, rfl, rfl, rfl, rfl, congrArg (fun z => some (Value.int .i64 z)) (hgtJ_succ (by omega) (by omega)).symm, rfl, trivial⟩ rfl
      · refine T.exit ?_
        refine TQ.then_x ?_
        refine TQ.then_x ?_
        refine TQ.block_x ?_
        refine TQ.then_n ?_
        refine T.region ?_
        refine TL.move hF rfl rfl ?_
        refine TL.move hF rfl rfl ?_
        refine TL.buildSlice hF rfl (cs := #[.int .i64 (hgtJ l k j)]) (e := 3) (fun w => by kernel_rfl) rfl (fun b43 => ?_)
        refine TL.append hF 1 rfl rfl rfl ho (row_own (cs := [.int .i64 (hgtJ l k j)]) (e := 3) (by simp)).src rfl rfl (by simp [Value.oneCell']) (by omega) (by omega) rfl (fun a' cap' seg' ho' => ?_)
        refine TL.assign hF rfl rfl ?_
        refine TL.nil ?_
        refine TQ.block_n ?_
        refine TQ.then_n ?_
        refine T.region ?_
        refine TL.move hF rfl rfl ?_
        refine TL.add hF rfl rfl (by omega) (by omega) rfl ?_
        refine TL.assign hF rfl rfl ?_
        refine TL.nil ?_
        refine TQ.pop ?_
        refine TQ.round (k + 1, a', cap', seg') ⟨by simp only; omega, ?_⟩ (by simp only; omega) ⟨rfl, rfl, rfl, rfl, rfl, trivial⟩ rfl
        have e : intC k (hgtF l k) ++ [Value.int .i64 (hgtJ l k j)] = intC (k + 1) (hgtF l (k + 1)) := by
          rw [← hgtJ_end (l := l) (k := k) (j := j) (by omega) (by omega)]
          unfold intC
          rw [List.range_succ, List.map_append, List.map_singleton, upd_same]
          congr 1
          apply List.map_congr_left
          intro i hi
          rw [upd_ne _ _ (by have := List.mem_range.1 hi; omega)]
        rw [← e]; exact ho'
    · refine T.exit ?_
      refine TQ.then_x ?_
      refine TQ.then_x ?_
      refine TQ.block_x ?_
      refine TQ.then_n ?_
      refine T.seq ?_
      refine T.region ?_
      refine TL.move hF rfl rfl ?_
      refine TL.assign hF rfl rfl ?_
      refine TL.assign hF rfl rfl ?_
      refine TL.nil ?_
      refine TQ.then_n ?_
      refine T.ret ?_
      refine TQ.rets [2, 3] _ rfl rfl rfl ?_
      have hkn : k = l.length := by omega
      subst hkn
      rw [heightsS_ok hv]
      exact ⟨oa, oc, [og], by simp [retVal], rfl, by rw [← intC_ints]; exact ho.row (by simp)⟩
end Go.Proofs.YtefkmiomldhmjaaDoor
/- The word of a node, by the reference. -/
namespace Go.Proofs.YtefkmiomldhmjaaDoor
open Go.Sl
variable {S : Nat → Prop} {w0 : World} {η : Heap}
theorem wrap_add (a b : Int) : wrap32 (wrap32 a + b) = wrap32 (a + b) := by unfold wrap32; omega
theorem wrap_range (a : Int) : -2147483648 ≤ wrap32 a ∧ wrap32 a ≤ 2147483647 := by unfold wrap32; omega
theorem sum_step (xs : List Int) (g : Int → Int) (m : Int) (j : Nat) (hj : j < xs.length) : (xs.take (j + 1)).foldl (fun m f => m + g f) m = (xs.take j).foldl (fun m f => m + g f) m + g xs[j] := by
  rw [List.take_succ_eq_append_getElem hj, List.foldl_append]; rfl
theorem max_bound (xs : List Int) (g : Int → Int) (lo hi : Int) (hg : ∀ f ∈ xs, lo ≤ g f ∧ g f ≤ hi) : ∀ m, lo ≤ m → m ≤ hi → lo ≤ xs.foldl (fun m f => max m (g f)) m ∧ xs.foldl (fun m f => max m (g f)) m ≤ hi := by
  induction xs with
  | nil => intro m h1 h2; exact ⟨h1, h2⟩
  | cons x xs ih =>
    intro m h1 h2
    have := hg x List.mem_cons_self
    exact ih (fun f hf => hg f (List.mem_cons_of_mem _ hf)) (max m (g x)) (by omega) (by omega)
theorem tmod_bound (a : Int) {b : Int} (hb : 0 < b) : -b < Int.tmod a b ∧ Int.tmod a b < b := by
  refine ⟨?_, Int.tmod_lt_of_pos a hb⟩
  have := Int.tmod_lt_of_pos (-a) hb
  rw [Int.neg_tmod] at this; omega
theorem tmod_nonneg' {a b : Int} (ha : 0 ≤ a) : 0 ≤ Int.tmod a b := Int.tmod_nonneg b ha
/-- The word of a node, of the words that it reads. -/
def compL (op n : Int) (xs : List Int) : Int :=
  if op = 1 then wrap32 (xs.foldl (fun s f => s + f) 0 + n) else if op = 2 then xs.foldl (fun m f => max m f) n else Int.tmod (Int.tmod (wrap32 (xs.foldl (fun s f => s + f) 0)) n + n) n
theorem comp_L (x : NodeD) (W : Nat → Int) : comp x W = compL x.op x.n (x.fr.map fun f => W f.toNat) := by
  unfold comp compL sumF; simp only [List.foldl_map]
theorem compL_range {op n : Int} {xs : List Int} (hx : ∀ f ∈ xs, -2147483648 ≤ f ∧ f ≤ 2147483647) (hn : -2147483648 ≤ n ∧ n ≤ 2147483647) (hm : op ≠ 1 → op ≠ 2 → 1 ≤ n) : -2147483648 ≤ compL op n xs ∧ compL op n xs ≤ 2147483647 := by
  unfold compL
  split
  · exact wrap_range _
  · split
    · exact max_bound xs (fun f => f) _ _ hx n hn.1 hn.2
    · rename_i h1 h2
      have := hm h1 h2
      have h3 := tmod_bound (wrap32 (xs.foldl (fun s f => s + f) 0)) (b := n) (by omega)
      have h4 := tmod_bound (Int.tmod (wrap32 (xs.foldl (fun s f => s + f) 0)) n + n) (b := n) (by omega)
      omega
theorem comp_range {x : NodeD} {W : Nat → Int} (hx : ∀ f ∈ x.fr, -2147483648 ≤ W f.toNat ∧ W f.toNat ≤ 2147483647) (hn : -2147483648 ≤ x.n ∧ x.n ≤ 2147483647) (hm : x.op ≠ 1 → x.op ≠ 2 → 1 ≤ x.n) : -2147483648 ≤ comp x W ∧ comp x W ≤ 2147483647 := by
  rw [comp_L]
  exact compL_range (fun f hf => by obtain ⟨g, hg, rfl⟩ := List.mem_map.1 hf; exact hx g hg) hn hm
theorem comp_congr {x : NodeD} {W V : Nat → Int} (h : ∀ f ∈ x.fr, W f.toNat = V f.toNat) : comp x W = comp x V := by
  rw [comp_L, comp_L, List.map_congr_left h]
def sumJ (x : NodeD) (W : Nat → Int) (j : Nat) : Int := (x.fr.take j).foldl (fun s f => s + W f.toNat) 0
def maxJ (x : NodeD) (W : Nat → Int) (j : Nat) : Int := (x.fr.take j).foldl (fun m f => max m (W f.toNat)) x.n

set_option maxHeartbeats 2000000 in
theorem Computed_fn {a : Option Addr} {x : NodeD} {n c : Nat} {W : Nat → Int} (hf : Row S w0 [] x.fa (ints x.fr)) (hfl : x.fr.length < 2 ^ 63) (hr : Row S w0 η a (intC n W)) (hin : ∀ f ∈ x.fr, 0 ≤ f ∧ f < n) (hw : ∀ f ∈ x.fr, -2147483648 ≤ W f.toNat ∧ W f.toNat ≤ 2147483647) (hxn : -2147483648 ≤ x.n ∧ x.n ≤ 2147483647) (hm : x.op ≠ 1 → x.op ≠ 2 → 1 ≤ x.n) :
    Rt Tryd.prog 52 [.agg x.cells.toArray, .slice a n c].toArray S w0 η (fun v η' => v = .int .i64 (comp x W) ∧ η' = η) := by
  have hF := open_wide
  refine Rt.of (fn := Tryd.f52) Tryd.func52 rfl rfl ?_
  refine T.seq ?_
  refine T.region ?_
  refine TL.box hF rfl rfl (fun b2 => ?_)
  refine TL.assign hF rfl rfl ?_
  refine TL.nil ?_
  refine TQ.then_n ?_
  refine T.seq ?_
  refine T.draw ?_
  refine DR.stepV [_] rfl [(2, _, none)] rfl rfl ⟨⟨rfl, by kernel_rfl⟩, trivial⟩ (fun ext => TL.fieldAddr hF rfl rfl TL.fin) ?_
  refine DR.stepV [_, _] rfl [(8, _, some 0)] rfl rfl ⟨⟨rfl, rfl, rfl⟩, trivial⟩ (fun ext => TL.load hF rfl (by first | exact At.own' (i := 0) rfl rfl | exact At.own' (i := 1) rfl rfl | exact At.own' (i := 2) rfl rfl | exact At.own' (i := 3) rfl rfl | exact At.own' (i := 4) rfl rfl | exact At.own' (i := 5) rfl rfl | exact At.own' (i := 6) rfl rfl | exact At.own' (i := 7) rfl rfl | exact At.own' (i := 8) rfl rfl | exact At.own' (i := 9) rfl rfl | exact At.own' (i := 10) rfl rfl | exact At.own' (i := 11) rfl rfl | exact At.own' (i := 12) rfl rfl) rfl TL.fin) ?_
  refine DR.stepV [_, _, _] rfl [] rfl rfl trivial (fun ext => TL.assign hF rfl rfl TL.fin) ?_
  refine DR.done [(5, _), (9, _), (8, _)] [_] mixed (by kernel_rfl) (by kernel_rfl) (by kernel_rfl) rfl rfl ?_
  refine TL.assign hF rfl rfl ?_
  refine TL.nil ?_
  refine TQ.then_n ?_
  refine T.seq ?_
  refine T.seq ?_
  refine T.region ?_
  refine TL.assign hF rfl rfl ?_
  refine TL.nil ?_
  refine TQ.then_n ?_
  refine T.block ?_
  refine T.loop (ι := Nat) (fun j => j ≤ x.fr.length) (fun j => [(1, .slice a n c), (2, ptr b2), (4, .int .i64 0), (5, .int .i64 (wrap32 (sumJ x W j))), (6, .int .i64 (maxJ x W j)), (7, .int .i64 (j : Int))]) (fun _ => [(b2, .cells x.cells.toArray 55 (0, 0))] :: η) (fun j => x.fr.length - j) 0 (Nat.zero_le _) ⟨rfl, rfl, rfl, rfl, rfl, rfl, trivial⟩ rfl ?_
  intro j hj
  have hlt : j < x.fr.length → (0 ≤ x.fr[j]! ∧ x.fr[j]! < n) ∧ (-2147483648 ≤ W (x.fr[j]!).toNat ∧ W (x.fr[j]!).toNat ≤ 2147483647) := fun h => by
    rw [getElem!_pos x.fr j h]; exact ⟨hin _ (List.getElem_mem h), hw _ (List.getElem_mem h)⟩
  refine T.seq ?_
  refine T.seq ?_
  refine T.region ?_
  refine TL.move hF rfl rfl ?_
  refine TL.fieldAddr hF rfl rfl ?_
  refine TL.load hF rfl (by first | exact At.own' (i := 0) rfl rfl | exact At.own' (i := 1) rfl rfl | exact At.own' (i := 2) rfl rfl | exact At.own' (i := 3) rfl rfl | exact At.own' (i := 4) rfl rfl | exact At.own' (i := 5) rfl rfl | exact At.own' (i := 6) rfl rfl | exact At.own' (i := 7) rfl rfl | exact At.own' (i := 8) rfl rfl | exact At.own' (i := 9) rfl rfl | exact At.own' (i := 10) rfl rfl | exact At.own' (i := 11) rfl rfl | exact At.own' (i := 12) rfl rfl) rfl ?_
  refine TL.len hF rfl rfl ?_
  refine TL.bin hF rfl rfl rfl rfl ?_
  refine TL.nil ?_
  refine TQ.then_n ?_
  first | refine T.cond_d rfl (fun ht14 => ?_) (fun ht14 => ?_) | refine T.cond _ rfl (fun ht14 => ?_) (fun ht14 => ?_)
  · refine T.skip ?_
    refine TQ.then_n ?_
    refine T.seq ?_
    refine T.block ?_
    refine T.seq ?_
    refine T.region ?_
    refine TL.move hF rfl rfl ?_
    refine TL.move hF rfl rfl ?_
    refine TL.fieldAddr hF rfl rfl ?_
    refine TL.load hF rfl (by first | exact At.own' (i := 0) rfl rfl | exact At.own' (i := 1) rfl rfl | exact At.own' (i := 2) rfl rfl | exact At.own' (i := 3) rfl rfl | exact At.own' (i := 4) rfl rfl | exact At.own' (i := 5) rfl rfl | exact At.own' (i := 6) rfl rfl | exact At.own' (i := 7) rfl rfl | exact At.own' (i := 8) rfl rfl | exact At.own' (i := 9) rfl rfl | exact At.own' (i := 10) rfl rfl | exact At.own' (i := 11) rfl rfl | exact At.own' (i := 12) rfl rfl) rfl ?_
    refine TL.move hF rfl rfl ?_
    have hjl : j < x.fr.length := by omega
    obtain ⟨hi, hwj⟩ := hlt hjl
    rw [getElem!_pos x.fr j hjl] at hi hwj
    refine TL.indexAddr hF rfl rfl (hf.adi (i := j) (by simp; omega)) (by omega) (by omega) rfl ?_
    refine TL.load hF rfl (hf.ro.int (i := j) hjl) rfl ?_
    refine TL.indexAddr hF rfl rfl (hr.adi (i := (x.fr[j]'hjl).toNat) (by rw [intC_len]; omega)) (by omega) (by omega) rfl ?_
    refine TL.load hF rfl (by rw [Nat.mul_one]; exact (hr.up upc).cell _ _ (intC_get (f := W) (by omega))) rfl ?_
    refine TL.add hF rfl rfl (by have := wrap_range (sumJ x W j); omega) (by have := wrap_range (sumJ x W j); omega) rfl ?_
    refine TL.callV hF (Word_fn _) rfl rfl ?_
    refine TL.assign hF rfl rfl ?_
    refine TL.nil ?_
    refine TQ.then_n ?_
    refine T.region ?_
    refine TL.move hF rfl rfl ?_
    refine TL.move hF rfl rfl ?_
    refine TL.fieldAddr hF rfl rfl ?_
    refine TL.load hF rfl (by first | exact At.own' (i := 0) rfl rfl | exact At.own' (i := 1) rfl rfl | exact At.own' (i := 2) rfl rfl | exact At.own' (i := 3) rfl rfl | exact At.own' (i := 4) rfl rfl | exact At.own' (i := 5) rfl rfl | exact At.own' (i := 6) rfl rfl | exact At.own' (i := 7) rfl rfl | exact At.own' (i := 8) rfl rfl | exact At.own' (i := 9) rfl rfl | exact At.own' (i := 10) rfl rfl | exact At.own' (i := 11) rfl rfl | exact At.own' (i := 12) rfl rfl) rfl ?_
    refine TL.move hF rfl rfl ?_
    refine TL.indexAddr hF rfl rfl (hf.adi (i := j) (by simp; omega)) (by omega) (by omega) rfl ?_
    refine TL.load hF rfl (hf.ro.int (i := j) hjl) rfl ?_
    refine TL.indexAddr hF rfl rfl (hr.adi (i := (x.fr[j]'hjl).toNat) (by rw [intC_len]; omega)) (by omega) (by omega) rfl ?_
    refine TL.load hF rfl (by rw [Nat.mul_one]; exact (hr.up upc).cell _ _ (intC_get (f := W) (by omega))) rfl ?_
    refine TL.max2 hF rfl rfl rfl ?_
    refine TL.assign hF rfl rfl ?_
    refine TL.nil ?_
    refine TQ.block_n ?_
    refine TQ.then_n ?_
    refine T.region ?_
    refine TL.move hF rfl rfl ?_
    refine TL.add hF rfl rfl (by omega) (by omega) rfl ?_
    refine TL.assign hF rfl rfl ?_
    refine TL.nil ?_
    refine TQ.round (j + 1) (by omega) (by omega) ⟨rfl, rfl, rfl, congrArg (fun z => some (Value.int .i64 z)) (by rw [wrap_add]; exact congrArg wrap32 (sum_step _ (fun f => W f.toNat) _ _ hjl).symm), congrArg (fun z => some (Value.int .i64 z)) (max_step _ (fun f => W f.toNat) _ _ hjl).symm, rfl, trivial⟩ rfl
  · refine T.exit ?_
    refine TQ.then_x ?_
    refine TQ.then_x ?_
    refine TQ.block_x ?_
    refine TQ.then_n ?_
    refine T.seq ?_
    refine T.seq ?_
    refine T.region ?_
    refine TL.fieldAddr hF rfl rfl ?_
    refine TL.load hF rfl (by first | exact At.own' (i := 0) rfl rfl | exact At.own' (i := 1) rfl rfl | exact At.own' (i := 2) rfl rfl | exact At.own' (i := 3) rfl rfl | exact At.own' (i := 4) rfl rfl | exact At.own' (i := 5) rfl rfl | exact At.own' (i := 6) rfl rfl | exact At.own' (i := 7) rfl rfl | exact At.own' (i := 8) rfl rfl | exact At.own' (i := 9) rfl rfl | exact At.own' (i := 10) rfl rfl | exact At.own' (i := 11) rfl rfl | exact At.own' (i := 12) rfl rfl) rfl ?_
    refine TL.nil ?_
    refine TQ.then_n ?_
    refine T.block ?_
    refine T.seq ?_
    refine T.region ?_
    refine TL.bin hF rfl rfl rfl rfl ?_
    refine TL.assign hF rfl rfl ?_
    refine TL.nil ?_
    refine TQ.then_n ?_
    first | refine T.cond_d rfl (fun ht40 => ?_) (fun ht40 => ?_) | refine T.cond _ rfl (fun ht40 => ?_) (fun ht40 => ?_)
    · refine T.seq ?_
      refine T.region ?_
      refine TL.move hF rfl rfl ?_
      refine TL.fieldAddr hF rfl rfl ?_
      refine TL.load hF rfl (by first | exact At.own' (i := 0) rfl rfl | exact At.own' (i := 1) rfl rfl | exact At.own' (i := 2) rfl rfl | exact At.own' (i := 3) rfl rfl | exact At.own' (i := 4) rfl rfl | exact At.own' (i := 5) rfl rfl | exact At.own' (i := 6) rfl rfl | exact At.own' (i := 7) rfl rfl | exact At.own' (i := 8) rfl rfl | exact At.own' (i := 9) rfl rfl | exact At.own' (i := 10) rfl rfl | exact At.own' (i := 11) rfl rfl | exact At.own' (i := 12) rfl rfl) rfl ?_
      refine TL.add hF rfl rfl (by have := wrap_range (sumJ x W j); omega) (by have := wrap_range (sumJ x W j); omega) rfl ?_
      refine TL.callV hF (Word_fn _) rfl rfl ?_
      refine TL.assign hF rfl rfl ?_
      refine TL.nil ?_
      refine TQ.then_n ?_
      refine T.ret ?_
      refine TQ.block_r ?_
      refine TQ.then_r ?_
      refine TQ.pop ?_
      refine TQ.rets [4] _ rfl rfl rfl ?_
      have ht : x.fr.take j = x.fr := List.take_of_length_le (by omega)
      exact ⟨by simp only [retVal, wrap_add]; unfold comp sumF sumJ; rw [if_pos ht40, ht], rfl⟩
    · refine T.seq ?_
      refine T.region ?_
      refine TL.bin hF rfl rfl rfl rfl ?_
      refine TL.assign hF rfl rfl ?_
      refine TL.nil ?_
      refine TQ.then_n ?_
      first | refine T.cond_d rfl (fun ht47 => ?_) (fun ht47 => ?_) | refine T.cond _ rfl (fun ht47 => ?_) (fun ht47 => ?_)
      · refine T.seq ?_
        refine T.region ?_
        refine TL.move hF rfl rfl ?_
        refine TL.assign hF rfl rfl ?_
        refine TL.nil ?_
        refine TQ.then_n ?_
        refine T.ret ?_
        refine TQ.block_r ?_
        refine TQ.then_r ?_
        refine TQ.pop ?_
        refine TQ.rets [4] _ rfl rfl rfl ?_
        have ht : x.fr.take j = x.fr := List.take_of_length_le (by omega)
        exact ⟨by simp only [retVal]; unfold comp maxJ; rw [if_neg ht40, if_pos ht47, ht], rfl⟩
      · refine T.skip ?_
        refine TQ.block_n ?_
        refine TQ.then_n ?_
        refine T.seq ?_
        have hn1 := hm ht40 ht47
        have hb1 := tmod_bound (wrap32 (sumJ x W j)) (b := x.n) (by omega)
        refine T.draw ?_
        refine DR.stepV [_] rfl [(5, _, none)] rfl rfl ⟨⟨rfl, by kernel_rfl⟩, trivial⟩ (fun ext => TL.move hF rfl rfl TL.fin) ?_
        refine DR.stepV [_, _] rfl [(2, _, none)] rfl rfl ⟨⟨rfl, by kernel_rfl⟩, trivial⟩ (fun ext => TL.fieldAddr hF rfl rfl TL.fin) ?_
        refine DR.stepV [_, _, _] rfl [(51, _, some 1)] rfl rfl ⟨⟨rfl, rfl, rfl⟩, trivial⟩ (fun ext => TL.load hF rfl (by first | exact At.own' (i := 0) rfl rfl | exact At.own' (i := 1) rfl rfl | exact At.own' (i := 2) rfl rfl | exact At.own' (i := 3) rfl rfl | exact At.own' (i := 4) rfl rfl | exact At.own' (i := 5) rfl rfl | exact At.own' (i := 6) rfl rfl | exact At.own' (i := 7) rfl rfl | exact At.own' (i := 8) rfl rfl | exact At.own' (i := 9) rfl rfl | exact At.own' (i := 10) rfl rfl | exact At.own' (i := 11) rfl rfl | exact At.own' (i := 12) rfl rfl) rfl TL.fin) ?_
        refine DR.stepV [_, _, _, _] rfl [(50, _, some 0), (52, _, some 2)] rfl rfl ⟨⟨rfl, rfl, rfl⟩, ⟨rfl, rfl, rfl⟩, trivial⟩ (fun ext => TL.remI hF rfl rfl (by omega) rfl TL.fin) ?_
        refine DR.stepV [_, _, _, _, _] rfl [(2, _, none)] rfl rfl ⟨⟨rfl, by kernel_rfl⟩, trivial⟩ (fun ext => TL.fieldAddr hF rfl rfl TL.fin) ?_
        refine DR.stepV [_, _, _, _, _, _] rfl [(54, _, some 4)] rfl rfl ⟨⟨rfl, rfl, rfl⟩, trivial⟩ (fun ext => TL.load hF rfl (by first | exact At.own' (i := 0) rfl rfl | exact At.own' (i := 1) rfl rfl | exact At.own' (i := 2) rfl rfl | exact At.own' (i := 3) rfl rfl | exact At.own' (i := 4) rfl rfl | exact At.own' (i := 5) rfl rfl | exact At.own' (i := 6) rfl rfl | exact At.own' (i := 7) rfl rfl | exact At.own' (i := 8) rfl rfl | exact At.own' (i := 9) rfl rfl | exact At.own' (i := 10) rfl rfl | exact At.own' (i := 11) rfl rfl | exact At.own' (i := 12) rfl rfl) rfl TL.fin) ?_
        refine DR.stepV [_, _, _, _, _, _, _] rfl [(53, _, some 3), (55, _, some 5)] rfl rfl ⟨⟨rfl, rfl, rfl⟩, ⟨rfl, rfl, rfl⟩, trivial⟩ (fun ext => TL.add hF rfl rfl (by omega) (by omega) rfl TL.fin) ?_
        refine DR.stepV [_, _, _, _, _, _, _, _] rfl [(2, _, none)] rfl rfl ⟨⟨rfl, by kernel_rfl⟩, trivial⟩ (fun ext => TL.fieldAddr hF rfl rfl TL.fin) ?_
        refine DR.stepV [_, _, _, _, _, _, _, _, _] rfl [(57, _, some 7)] rfl rfl ⟨⟨rfl, rfl, rfl⟩, trivial⟩ (fun ext => TL.load hF rfl (by first | exact At.own' (i := 0) rfl rfl | exact At.own' (i := 1) rfl rfl | exact At.own' (i := 2) rfl rfl | exact At.own' (i := 3) rfl rfl | exact At.own' (i := 4) rfl rfl | exact At.own' (i := 5) rfl rfl | exact At.own' (i := 6) rfl rfl | exact At.own' (i := 7) rfl rfl | exact At.own' (i := 8) rfl rfl | exact At.own' (i := 9) rfl rfl | exact At.own' (i := 10) rfl rfl | exact At.own' (i := 11) rfl rfl | exact At.own' (i := 12) rfl rfl) rfl TL.fin) ?_
        refine DR.done [(58, _), (57, _), (56, _), (55, _), (54, _), (53, _), (52, _), (51, _), (50, _)] [_, _] mixed (by kernel_rfl) (by kernel_rfl) (by kernel_rfl) rfl rfl ?_
        refine TL.remI hF rfl rfl (by omega) rfl ?_
        refine TL.assign hF rfl rfl ?_
        refine TL.nil ?_
        refine TQ.then_n ?_
        refine T.ret ?_
        refine TQ.pop ?_
        refine TQ.rets [4] _ rfl rfl rfl ?_
        have ht : x.fr.take j = x.fr := List.take_of_length_le (by omega)
        exact ⟨by simp only [retVal]; unfold comp sumF sumJ; rw [if_neg ht40, if_neg ht47, ht], rfl⟩
end Go.Proofs.YtefkmiomldhmjaaDoor
/- The word of a node, by the program. -/
namespace Go.Proofs.YtefkmiomldhmjaaDoor
open Go.Sl
variable {S : Nat → Prop} {w0 : World} {η : Heap}
set_option maxHeartbeats 2000000 in
theorem sum_fn {a : Option Addr} {xs : List Int} {c : Nat} (hx : Row S w0 η a (ints xs)) (hl : xs.length ≤ 100) (hb : ∀ f ∈ xs, -2147483648 ≤ f ∧ f ≤ 2147483647) :
    Rt Tryd.prog 96 [.slice a xs.length c].toArray S w0 η (fun v η' => v = .int .i64 (wrap32 (xs.foldl (fun s f => s + f) 0)) ∧ η' = η) := by
  have hF := open_wide
  refine Rt.of (fn := Tryd.f96) Tryd.func96 rfl rfl ?_
  refine T.seq ?_
  refine T.region ?_
  refine TL.assign hF rfl rfl ?_
  refine TL.nil ?_
  refine TQ.then_n ?_
  refine T.seq ?_
  refine T.region ?_
  refine TL.assign hF rfl rfl ?_
  refine TL.nil ?_
  refine TQ.then_n ?_
  refine T.seq ?_
  refine T.seq ?_
  refine T.region ?_
  refine TL.move hF rfl rfl ?_
  refine TL.len hF rfl rfl ?_
  refine TL.move hF rfl rfl ?_
  refine TL.nil ?_
  refine TQ.then_n ?_
  refine T.block ?_
  refine T.loop (ι := Nat) (fun j => j ≤ xs.length ∧ -2147483648 * (j : Int) ≤ (xs.take j).foldl (fun s f => s + f) 0 ∧ (xs.take j).foldl (fun s f => s + f) 0 ≤ 2147483648 * (j : Int)) (fun j => [(2, .int .i64 0), (3, .int .i64 ((xs.take j).foldl (fun s f => s + f) 0)), (6, .slice a xs.length c), (7, .int .i64 (xs.length : Int)), (8, .int .i64 (j : Int))]) (fun _ => η) (fun j => xs.length - j) 0 ⟨Nat.zero_le _, by simp⟩ ⟨rfl, rfl, rfl, rfl, rfl, trivial⟩ rfl ?_
  rintro j ⟨hj, hs1, hs2⟩
  refine T.seq ?_
  refine T.region ?_
  refine TL.bin hF rfl rfl rfl rfl ?_
  refine TL.nil ?_
  refine TQ.then_n ?_
  refine T.seq ?_
  first | refine T.cond_d rfl (fun ht9 => ?_) (fun ht9 => ?_) | refine T.cond _ rfl (fun ht9 => ?_) (fun ht9 => ?_)
  · refine T.skip ?_
    refine TQ.then_n ?_
    refine T.seq ?_
    refine T.block ?_
    refine T.seq ?_
    refine T.region ?_
    refine TL.indexAddr hF rfl rfl (hx.adi (i := j) (by simp; omega)) (by omega) (by omega) rfl ?_
    refine TL.load hF rfl (hx.int (i := j) (by omega)) rfl ?_
    refine TL.assign hF rfl rfl ?_
    refine TL.nil ?_
    refine TQ.then_n ?_
    refine T.region ?_
    refine TL.move hF rfl rfl ?_
    refine TL.move hF rfl rfl ?_
    refine TL.add hF rfl rfl (by have := hb (xs[j]'(by omega)) (List.getElem_mem _); omega) (by have := hb (xs[j]'(by omega)) (List.getElem_mem _); omega) rfl ?_
    refine TL.assign hF rfl rfl ?_
    refine TL.nil ?_
    refine TQ.block_n ?_
    refine TQ.then_n ?_
    refine T.region ?_
    refine TL.add hF rfl rfl (by omega) (by omega) rfl ?_
    refine TL.move hF rfl rfl ?_
    refine TL.nil ?_
    have hbj := hb (xs[j]'(by omega)) (List.getElem_mem _)
    have e := sum_step xs (fun f => f) 0 j (by omega)
    refine TQ.round (j + 1) ⟨by omega, by rw [e]; omega, by rw [e]; omega⟩ (by omega) ⟨rfl, congrArg (fun z => some (Value.int .i64 z)) e.symm, rfl, rfl, rfl, trivial⟩ rfl
  · refine T.exit ?_
    refine TQ.then_x ?_
    refine TQ.then_x ?_
    refine TQ.block_x ?_
    refine TQ.then_n ?_
    refine T.seq ?_
    refine T.region ?_
    refine TL.move hF rfl rfl ?_
    refine TL.convK hF (r := wrap32 ((xs.take j).foldl (fun s f => s + f) 0)) rfl (IntKind.wrap_i32 _) rfl ?_
    refine TL.convK hF (r := wrap32 ((xs.take j).foldl (fun s f => s + f) 0)) rfl (by have := wrap_range ((xs.take j).foldl (fun s f => s + f) 0); exact wrap_i64 (by omega) (by omega)) rfl ?_
    refine TL.assign hF rfl rfl ?_
    refine TL.nil ?_
    refine TQ.then_n ?_
    refine T.ret ?_
    refine TQ.rets [2] _ rfl rfl rfl ?_
    rw [List.take_of_length_le (by omega)]
    exact ⟨rfl, rfl⟩
theorem max_assoc (xs : List Int) : ∀ m n : Int, xs.foldl (fun m f => max m f) (max n m) = max n (xs.foldl (fun m f => max m f) m) := by
  induction xs with
  | nil => intro m n; rfl
  | cons x xs ih => intro m n; simp only [List.foldl_cons]; rw [← ih, Int.max_assoc]
set_option maxHeartbeats 2000000 in
theorem Max_fn {a : Option Addr} {x : Int} {xs : List Int} {c : Nat} (hx : Row S w0 η a (ints (x :: xs))) (hl : (x :: xs).length ≤ 100) :
    Rt Tryd.prog 94 [.slice a (x :: xs).length c].toArray S w0 η (fun v η' => v = .int .i64 (xs.foldl (fun m f => max m f) x) ∧ η' = η) := by
  have hF := open_wide
  refine Rt.of (fn := Tryd.f94) Tryd.func94 rfl rfl ?_
  refine T.seq ?_
  refine T.region ?_
  refine TL.assign hF rfl rfl ?_
  refine TL.nil ?_
  refine TQ.then_n ?_
  refine T.seq ?_
  refine T.seq ?_
  refine T.region ?_
  refine TL.move hF rfl rfl ?_
  refine TL.len hF rfl rfl ?_
  refine TL.bin hF rfl rfl rfl rfl ?_
  refine TL.nil ?_
  refine TQ.then_n ?_
  refine T.cond_f rfl (decide_eq_false (by simp; omega)) ?_
  refine T.skip ?_
  refine TQ.then_n ?_
  refine T.seq ?_
  refine T.region ?_
  refine TL.move hF rfl rfl ?_
  refine TL.indexAddr hF rfl rfl (hx.adi (i := 0) (by simp)) (by simp) (by simp) rfl ?_
  refine TL.load hF rfl (hx.int (i := 0) (by simp)) rfl ?_
  refine TL.assign hF rfl rfl ?_
  refine TL.nil ?_
  refine TQ.then_n ?_
  refine T.seq ?_
  refine T.seq ?_
  refine T.region ?_
  refine TL.assign hF rfl rfl ?_
  refine TL.nil ?_
  refine TQ.then_n ?_
  refine T.block ?_
  refine T.loop (ι := Nat) (fun j => j ≤ xs.length) (fun j => [(0, .slice a (x :: xs).length c), (2, .int .i64 0), (3, .int .i64 ((xs.take j).foldl (fun m f => max m f) x)), (4, .int .i64 ((j + 1 : Nat) : Int))]) (fun _ => η) (fun j => xs.length - j) 0 (Nat.zero_le _) ⟨rfl, rfl, rfl, rfl, trivial⟩ rfl ?_
  intro j hj
  refine T.seq ?_
  refine T.seq ?_
  refine T.region ?_
  refine TL.move hF rfl rfl ?_
  refine TL.move hF rfl rfl ?_
  refine TL.len hF rfl rfl ?_
  refine TL.bin hF rfl rfl rfl rfl ?_
  refine TL.nil ?_
  refine TQ.then_n ?_
  first | refine T.cond_d rfl (fun ht15 => ?_) (fun ht15 => ?_) | refine T.cond _ rfl (fun ht15 => ?_) (fun ht15 => ?_)
  · refine T.skip ?_
    refine TQ.then_n ?_
    refine T.seq ?_
    refine T.block ?_
    refine T.region ?_
    refine TL.move hF rfl rfl ?_
    refine TL.move hF rfl rfl ?_
    refine TL.move hF rfl rfl ?_
    refine TL.indexAddr hF rfl rfl (hx.adi (i := j + 1) (by simp at *; omega)) (by omega) (by omega) rfl ?_
    have hjl : j < xs.length := by simp at ht15; omega
    have hv := hx.int (i := j + 1) (by simp; omega)
    rw [List.getElem_cons_succ] at hv
    refine TL.load hF rfl hv rfl ?_
    refine TL.max2 hF rfl rfl rfl ?_
    refine TL.assign hF rfl rfl ?_
    refine TL.nil ?_
    refine TQ.block_n ?_
    refine TQ.then_n ?_
    refine T.region ?_
    refine TL.move hF rfl rfl ?_
    refine TL.add hF rfl rfl (by simp at hl; omega) (by simp at hl; omega) rfl ?_
    refine TL.assign hF rfl rfl ?_
    refine TL.nil ?_
    refine TQ.round (j + 1) (by omega) (by omega) ⟨rfl, rfl, congrArg (fun z => some (Value.int .i64 z)) (max_step xs (fun f => f) x j hjl).symm, rfl, trivial⟩ rfl
  · refine T.exit ?_
    refine TQ.then_x ?_
    refine TQ.then_x ?_
    refine TQ.block_x ?_
    refine TQ.then_n ?_
    refine T.seq ?_
    refine T.region ?_
    refine TL.move hF rfl rfl ?_
    refine TL.assign hF rfl rfl ?_
    refine TL.nil ?_
    refine TQ.then_n ?_
    refine T.ret ?_
    refine TQ.rets [2] _ rfl rfl rfl ?_
    rw [List.take_of_length_le (by simp at ht15; omega)]
    exact ⟨rfl, rfl⟩
set_option maxHeartbeats 2000000 in
theorem most_fn {a : Option Addr} {x : NodeD} {y : Int} {ys : List Int} {c : Nat} (hx : Row S w0 η a (ints (y :: ys))) (hl : (y :: ys).length ≤ 100) :
    Rt Tryd.prog 92 [.agg x.cells.toArray, .slice a (y :: ys).length c].toArray S w0 η (fun v η' => v = .int .i64 ((y :: ys).foldl (fun m f => max m f) x.n) ∧ η' = η) := by
  have hF := open_wide
  refine Rt.of (fn := Tryd.f92) Tryd.func92 rfl rfl ?_
  refine T.seq ?_
  refine T.region ?_
  refine TL.box hF rfl rfl (fun b2 => ?_)
  refine TL.assign hF rfl rfl ?_
  refine TL.nil ?_
  refine TQ.then_n ?_
  refine T.seq ?_
  refine T.draw ?_
  refine DR.stepV [_] rfl [(2, _, none)] rfl rfl ⟨⟨rfl, by kernel_rfl⟩, trivial⟩ (fun ext => TL.fieldAddr hF rfl rfl TL.fin) ?_
  refine DR.stepV [_, _] rfl [(5, _, some 0)] rfl rfl ⟨⟨rfl, rfl, rfl⟩, trivial⟩ (fun ext => TL.load hF rfl (by first | exact At.own' (i := 0) rfl rfl | exact At.own' (i := 1) rfl rfl | exact At.own' (i := 2) rfl rfl | exact At.own' (i := 3) rfl rfl | exact At.own' (i := 4) rfl rfl | exact At.own' (i := 5) rfl rfl | exact At.own' (i := 6) rfl rfl | exact At.own' (i := 7) rfl rfl | exact At.own' (i := 8) rfl rfl | exact At.own' (i := 9) rfl rfl | exact At.own' (i := 10) rfl rfl | exact At.own' (i := 11) rfl rfl | exact At.own' (i := 12) rfl rfl) rfl TL.fin) ?_
  refine DR.stepV [_, _, _] rfl [(1, _, none)] rfl rfl ⟨⟨rfl, by kernel_rfl⟩, trivial⟩ (fun ext => TL.move hF rfl rfl TL.fin) ?_
  refine DR.stepV [_, _, _, _] rfl [(7, _, some 2)] rfl rfl ⟨⟨rfl, rfl, rfl⟩, trivial⟩ (fun ext => TL.callV hF (Max_fn (hx.up upc) hl) rfl rfl TL.fin) ?_
  refine DR.done [(8, _), (7, _), (6, _), (5, _)] [_, _] mixed (by kernel_rfl) (by kernel_rfl) (by kernel_rfl) rfl rfl ?_
  refine TL.max2 hF rfl rfl rfl ?_
  refine TL.assign hF rfl rfl ?_
  refine TL.nil ?_
  refine TQ.then_n ?_
  refine T.ret ?_
  refine TQ.pop ?_
  refine TQ.rets [4] _ rfl rfl rfl ?_
  exact ⟨by simp only [retVal, List.foldl_cons]; rw [max_assoc], rfl⟩
set_option maxHeartbeats 2000000 in
theorem kinds1_fn {a : Option Addr} {x : NodeD} {y : Int} {ys : List Int} {c : Nat} (hx : Row S w0 η a (ints (y :: ys))) (hl : (y :: ys).length ≤ 100) :
    Rt Tryd.prog 91 [.agg x.cells.toArray, .slice a (y :: ys).length c].toArray S w0 η (fun v η' => v = .int .i64 ((y :: ys).foldl (fun m f => max m f) x.n) ∧ η' = η) := by
  have hF := open_wide
  refine Rt.of (fn := Tryd.f91) Tryd.func91 rfl rfl ?_
  refine T.seq ?_
  refine T.region ?_
  refine TL.box hF rfl rfl (fun b2 => ?_)
  refine TL.assign hF rfl rfl ?_
  refine TL.nil ?_
  refine TQ.then_n ?_
  refine T.seq ?_
  refine T.region ?_
  refine TL.fieldAddr hF rfl rfl ?_
  refine TL.loadA hF x.cells rfl rfl (own_list (i := 0) (cs := x.cells) rfl) rfl ?_
  refine TL.move hF rfl rfl ?_
  refine TL.callV hF (most_fn (x := x) (hx.up upc) hl) rfl rfl ?_
  refine TL.assign hF rfl rfl ?_
  refine TL.nil ?_
  refine TQ.then_n ?_
  refine T.ret ?_
  refine TQ.pop ?_
  refine TQ.rets [4] _ rfl rfl rfl ?_
  exact ⟨rfl, rfl⟩
set_option maxHeartbeats 2000000 in
theorem addsWord_fn {a : Option Addr} {x : NodeD} {xs : List Int} {c : Nat} {seg : Seg} (ho : OSl 3 1 (.slice a xs.length c) xs.length (ints xs) seg) (hl : xs.length ≤ 90) (hb : ∀ f ∈ xs, -2147483648 ≤ f ∧ f ≤ 2147483647) (hn : -2147483648 ≤ x.n ∧ x.n ≤ 2147483647) :
    Rt Tryd.prog 95 [.agg x.cells.toArray, .slice a xs.length c].toArray S w0 (seg :: η) (fun v η' => v = .int .i64 (wrap32 (xs.foldl (fun s f => s + f) 0 + x.n)) ∧ η' = η) := by
  have hF := open_wide
  refine Rt.of (fn := Tryd.f95) Tryd.func95 rfl rfl ?_
  refine T.seq ?_
  refine T.region ?_
  refine TL.box hF rfl rfl (fun b2 => ?_)
  refine TL.assign hF rfl rfl ?_
  refine TL.nil ?_
  refine TQ.then_n ?_
  refine T.seq ?_
  refine T.region ?_
  refine TL.move hF rfl rfl ?_
  refine TL.fieldAddr hF rfl rfl ?_
  refine TL.fieldAddr hF rfl rfl ?_
  refine TL.load hF rfl (by first | exact At.own' (i := 0) rfl rfl | exact At.own' (i := 1) rfl rfl | exact At.own' (i := 2) rfl rfl | exact At.own' (i := 3) rfl rfl | exact At.own' (i := 4) rfl rfl | exact At.own' (i := 5) rfl rfl | exact At.own' (i := 6) rfl rfl | exact At.own' (i := 7) rfl rfl | exact At.own' (i := 8) rfl rfl | exact At.own' (i := 9) rfl rfl | exact At.own' (i := 10) rfl rfl | exact At.own' (i := 11) rfl rfl | exact At.own' (i := 12) rfl rfl) rfl ?_
  refine TL.buildSlice hF rfl (cs := #[.int .i64 x.n]) (e := 3) (fun w => by kernel_rfl) rfl (fun b9 => ?_)
  refine TL.append hF 2 rfl rfl rfl ho (row_own (cs := [.int .i64 x.n]) (e := 3) (by simp)).src rfl rfl (by simp [Value.oneCell']) (by omega) (by omega) rfl (fun a' cap' seg' ho' => ?_)
  have e : ints xs ++ [Value.int .i64 x.n] = ints (xs ++ [x.n]) := by simp [ints]
  rw [e] at ho'
  have hl2 : xs.length + 1 = (xs ++ [x.n]).length := by simp
  rw [hl2] at ho' ⊢
  refine TL.callV hF (sum_fn (xs := xs ++ [x.n]) (ho'.row (by simp)) (by simp; omega) (fun f hf => by rcases List.mem_append.1 hf with h | h; exact hb f h; rw [List.mem_singleton.1 h]; exact hn)) rfl rfl ?_
  refine TL.assign hF rfl rfl ?_
  refine TL.nil ?_
  refine TQ.then_n ?_
  refine T.ret ?_
  refine TQ.pop ?_
  refine TQ.pop ?_
  refine TQ.pop ?_
  refine TQ.rets [4] _ rfl rfl rfl ?_
  exact ⟨by simp [retVal], rfl⟩
set_option maxHeartbeats 2000000 in
theorem leavesWord_fn {a : Option Addr} {x : NodeD} {xs : List Int} {c : Nat} {seg : Seg} (ho : OSl 3 1 (.slice a xs.length c) xs.length (ints xs) seg) (hl : xs.length ≤ 90) (hb : ∀ f ∈ xs, -2147483648 ≤ f ∧ f ≤ 2147483647) (hn : 1 ≤ x.n ∧ x.n ≤ 2147483647) :
    Rt Tryd.prog 97 [.agg x.cells.toArray, .slice a xs.length c].toArray S w0 (seg :: η) (fun v η' => v = .int .i64 (Int.tmod (Int.tmod (wrap32 (xs.foldl (fun s f => s + f) 0)) x.n + x.n) x.n) ∧ η' = η) := by
  have hF := open_wide
  refine Rt.of (fn := Tryd.f97) Tryd.func97 rfl rfl ?_
  refine T.seq ?_
  refine T.region ?_
  refine TL.box hF rfl rfl (fun b2 => ?_)
  refine TL.assign hF rfl rfl ?_
  refine TL.nil ?_
  refine TQ.then_n ?_
  refine T.seq ?_
  refine T.region ?_
  refine TL.move hF rfl rfl ?_
  refine TL.callV hF (sum_fn (xs := xs) (ho.row (by simp)) (by omega) hb) rfl rfl ?_
  refine TL.assign hF rfl rfl ?_
  refine TL.nil ?_
  refine TQ.then_n ?_
  refine T.seq ?_
  have hb1 := tmod_bound (wrap32 (xs.foldl (fun s f => s + f) 0)) (b := x.n) (by omega)
  refine T.draw ?_
  refine DR.stepV [_] rfl [(5, _, none)] rfl rfl ⟨⟨rfl, by kernel_rfl⟩, trivial⟩ (fun ext => TL.move hF rfl rfl TL.fin) ?_
  refine DR.stepV [_, _] rfl [(2, _, none)] rfl rfl ⟨⟨rfl, by kernel_rfl⟩, trivial⟩ (fun ext => TL.fieldAddr hF rfl rfl TL.fin) ?_
  refine DR.stepV [_, _, _] rfl [(9, _, some 1)] rfl rfl ⟨⟨rfl, rfl, rfl⟩, trivial⟩ (fun ext => TL.fieldAddr hF rfl rfl TL.fin) ?_
  refine DR.stepV [_, _, _, _] rfl [(10, _, some 2)] rfl rfl ⟨⟨rfl, rfl, rfl⟩, trivial⟩ (fun ext => TL.fieldAddr hF rfl rfl TL.fin) ?_
  refine DR.stepV [_, _, _, _, _] rfl [(11, _, some 3)] rfl rfl ⟨⟨rfl, rfl, rfl⟩, trivial⟩ (fun ext => TL.load hF rfl (by first | exact At.own' (i := 0) rfl rfl | exact At.own' (i := 1) rfl rfl | exact At.own' (i := 2) rfl rfl | exact At.own' (i := 3) rfl rfl | exact At.own' (i := 4) rfl rfl | exact At.own' (i := 5) rfl rfl | exact At.own' (i := 6) rfl rfl | exact At.own' (i := 7) rfl rfl | exact At.own' (i := 8) rfl rfl | exact At.own' (i := 9) rfl rfl | exact At.own' (i := 10) rfl rfl | exact At.own' (i := 11) rfl rfl | exact At.own' (i := 12) rfl rfl) rfl TL.fin) ?_
  refine DR.stepV [_, _, _, _, _, _] rfl [(8, _, some 0), (12, _, some 4)] rfl rfl ⟨⟨rfl, rfl, rfl⟩, ⟨rfl, rfl, rfl⟩, trivial⟩ (fun ext => TL.remI hF rfl rfl (by omega) rfl TL.fin) ?_
  refine DR.stepV [_, _, _, _, _, _, _] rfl [(2, _, none)] rfl rfl ⟨⟨rfl, by kernel_rfl⟩, trivial⟩ (fun ext => TL.fieldAddr hF rfl rfl TL.fin) ?_
  refine DR.stepV [_, _, _, _, _, _, _, _] rfl [(14, _, some 6)] rfl rfl ⟨⟨rfl, rfl, rfl⟩, trivial⟩ (fun ext => TL.fieldAddr hF rfl rfl TL.fin) ?_
  refine DR.stepV [_, _, _, _, _, _, _, _, _] rfl [(15, _, some 7)] rfl rfl ⟨⟨rfl, rfl, rfl⟩, trivial⟩ (fun ext => TL.fieldAddr hF rfl rfl TL.fin) ?_
  refine DR.stepV [_, _, _, _, _, _, _, _, _, _] rfl [(16, _, some 8)] rfl rfl ⟨⟨rfl, rfl, rfl⟩, trivial⟩ (fun ext => TL.load hF rfl (by first | exact At.own' (i := 0) rfl rfl | exact At.own' (i := 1) rfl rfl | exact At.own' (i := 2) rfl rfl | exact At.own' (i := 3) rfl rfl | exact At.own' (i := 4) rfl rfl | exact At.own' (i := 5) rfl rfl | exact At.own' (i := 6) rfl rfl | exact At.own' (i := 7) rfl rfl | exact At.own' (i := 8) rfl rfl | exact At.own' (i := 9) rfl rfl | exact At.own' (i := 10) rfl rfl | exact At.own' (i := 11) rfl rfl | exact At.own' (i := 12) rfl rfl) rfl TL.fin) ?_
  refine DR.stepV [_, _, _, _, _, _, _, _, _, _, _] rfl [(13, _, some 5), (17, _, some 9)] rfl rfl ⟨⟨rfl, rfl, rfl⟩, ⟨rfl, rfl, rfl⟩, trivial⟩ (fun ext => TL.add hF rfl rfl (by omega) (by omega) rfl TL.fin) ?_
  refine DR.stepV [_, _, _, _, _, _, _, _, _, _, _, _] rfl [(2, _, none)] rfl rfl ⟨⟨rfl, by kernel_rfl⟩, trivial⟩ (fun ext => TL.fieldAddr hF rfl rfl TL.fin) ?_
  refine DR.stepV [_, _, _, _, _, _, _, _, _, _, _, _, _] rfl [(19, _, some 11)] rfl rfl ⟨⟨rfl, rfl, rfl⟩, trivial⟩ (fun ext => TL.fieldAddr hF rfl rfl TL.fin) ?_
  refine DR.stepV [_, _, _, _, _, _, _, _, _, _, _, _, _, _] rfl [(20, _, some 12)] rfl rfl ⟨⟨rfl, rfl, rfl⟩, trivial⟩ (fun ext => TL.fieldAddr hF rfl rfl TL.fin) ?_
  refine DR.stepV [_, _, _, _, _, _, _, _, _, _, _, _, _, _, _] rfl [(21, _, some 13)] rfl rfl ⟨⟨rfl, rfl, rfl⟩, trivial⟩ (fun ext => TL.load hF rfl (by first | exact At.own' (i := 0) rfl rfl | exact At.own' (i := 1) rfl rfl | exact At.own' (i := 2) rfl rfl | exact At.own' (i := 3) rfl rfl | exact At.own' (i := 4) rfl rfl | exact At.own' (i := 5) rfl rfl | exact At.own' (i := 6) rfl rfl | exact At.own' (i := 7) rfl rfl | exact At.own' (i := 8) rfl rfl | exact At.own' (i := 9) rfl rfl | exact At.own' (i := 10) rfl rfl | exact At.own' (i := 11) rfl rfl | exact At.own' (i := 12) rfl rfl) rfl TL.fin) ?_
  refine DR.done [(22, _), (21, _), (20, _), (19, _), (18, _), (17, _), (16, _), (15, _), (14, _), (13, _), (12, _), (11, _), (10, _), (9, _), (8, _)] [_, _] mixed (by kernel_rfl) (by kernel_rfl) (by kernel_rfl) rfl rfl ?_
  refine TL.remI hF rfl rfl (by omega) rfl ?_
  refine TL.assign hF rfl rfl ?_
  refine TL.nil ?_
  refine TQ.then_n ?_
  refine T.ret ?_
  refine TQ.pop ?_
  refine TQ.pop ?_
  refine TQ.rets [4] _ rfl rfl rfl ?_
  exact ⟨rfl, rfl⟩
set_option maxHeartbeats 2000000 in
theorem total_fn {a : Option Addr} {x : NodeD} {xs : List Int} {c : Nat} {seg : Seg} (ho : OSl 3 1 (.slice a xs.length c) xs.length (ints xs) seg) (hl : xs.length ≤ 90) (hb : ∀ f ∈ xs, -2147483648 ≤ f ∧ f ≤ 2147483647) (hn : -2147483648 ≤ x.n ∧ x.n ≤ 2147483647) :
    Rt Tryd.prog 90 [.agg x.cells.toArray, .slice a xs.length c].toArray S w0 (seg :: η) (fun v η' => v = .int .i64 (wrap32 (xs.foldl (fun s f => s + f) 0 + x.n)) ∧ η' = η) := by
  have hF := open_wide
  refine Rt.of (fn := Tryd.f90) Tryd.func90 rfl rfl ?_
  refine T.seq ?_
  refine T.region ?_
  refine TL.box hF rfl rfl (fun b2 => ?_)
  refine TL.assign hF rfl rfl ?_
  refine TL.nil ?_
  refine TQ.then_n ?_
  refine T.seq ?_
  refine T.region ?_
  refine TL.fieldAddr hF rfl rfl ?_
  refine TL.loadA hF x.cells rfl rfl (own_list (i := 0) (cs := x.cells) rfl) rfl ?_
  refine TL.build hF rfl (r := .agg x.cells.toArray) (fun w => by kernel_rfl) rfl ?_
  refine TL.makeInterfaceR hF rfl (r := .iface 142 (.agg x.cells.toArray)) (fun w => by kernel_rfl) rfl ?_
  refine TL.move hF rfl rfl ?_
  refine TL.hsub (seg :: η) (List.sublist_cons_self _ _) ?_
  refine TL.invoke hF rfl rfl (g := 95) (rcv := .agg x.cells.toArray) (fun w => by kernel_rfl) (addsWord_fn (x := x) ho hl hb hn) rfl ?_
  rintro _ _ ⟨rfl, rfl⟩
  refine TL.assign hF rfl rfl ?_
  refine TL.nil ?_
  refine TQ.then_n ?_
  refine T.ret ?_
  refine TQ.rets [4] _ rfl rfl rfl ?_
  exact ⟨rfl, rfl⟩
set_option maxHeartbeats 2000000 in
theorem rest_fn {a : Option Addr} {x : NodeD} {xs : List Int} {c : Nat} {seg : Seg} (ho : OSl 3 1 (.slice a xs.length c) xs.length (ints xs) seg) (hl : xs.length ≤ 90) (hb : ∀ f ∈ xs, -2147483648 ≤ f ∧ f ≤ 2147483647) (hn : 1 ≤ x.n ∧ x.n ≤ 2147483647) :
    Rt Tryd.prog 93 [.agg x.cells.toArray, .slice a xs.length c].toArray S w0 (seg :: η) (fun v η' => v = .int .i64 (Int.tmod (Int.tmod (wrap32 (xs.foldl (fun s f => s + f) 0)) x.n + x.n) x.n) ∧ η' = η) := by
  have hF := open_wide
  refine Rt.of (fn := Tryd.f93) Tryd.func93 rfl rfl ?_
  refine T.seq ?_
  refine T.region ?_
  refine TL.box hF rfl rfl (fun b2 => ?_)
  refine TL.assign hF rfl rfl ?_
  refine TL.nil ?_
  refine TQ.then_n ?_
  refine T.seq ?_
  refine T.region ?_
  refine TL.fieldAddr hF rfl rfl ?_
  refine TL.loadA hF x.cells rfl rfl (own_list (i := 0) (cs := x.cells) rfl) rfl ?_
  refine TL.build hF rfl (r := .agg x.cells.toArray) (fun w => by kernel_rfl) rfl ?_
  refine TL.build hF rfl (r := .agg x.cells.toArray) (fun w => by kernel_rfl) rfl ?_
  refine TL.makeInterfaceR hF rfl (r := .iface 144 (.agg x.cells.toArray)) (fun w => by kernel_rfl) rfl ?_
  refine TL.move hF rfl rfl ?_
  refine TL.hsub (seg :: η) (List.sublist_cons_self _ _) ?_
  refine TL.invoke hF rfl rfl (g := 97) (rcv := .agg x.cells.toArray) (fun w => by kernel_rfl) (leavesWord_fn (x := x) ho hl hb hn) rfl ?_
  rintro _ _ ⟨rfl, rfl⟩
  refine TL.assign hF rfl rfl ?_
  refine TL.nil ?_
  refine TQ.then_n ?_
  refine T.ret ?_
  refine TQ.rets [4] _ rfl rfl rfl ?_
  exact ⟨rfl, rfl⟩
theorem makes_fn {a : Option Addr} {x : NodeD} {xs : List Int} {c : Nat} {seg : Seg} (ho : OSl 3 1 (.slice a xs.length c) xs.length (ints xs) seg) (hop : 1 ≤ x.op ∧ x.op ≤ 3) (h1 : 1 ≤ xs.length) (hl : xs.length ≤ 90) (hb : ∀ f ∈ xs, -2147483648 ≤ f ∧ f ≤ 2147483647) (hn : -2147483648 ≤ x.n ∧ x.n ≤ 2147483647) (hm : x.op = 3 → 1 ≤ x.n) :
    Rt Tryd.prog (kMakes x.op.toNat) [.agg x.cells.toArray, .slice a xs.length c].toArray S w0 (seg :: η) (fun v η' => v = .int .i64 (compL x.op x.n xs) ∧ ∃ r, η' = r ++ η) := by
  have h3 : x.op = 1 ∨ x.op = 2 ∨ x.op = 3 := by omega
  rcases h3 with h | h | h
  · rw [show kMakes x.op.toNat = 90 by rw [h]; rfl]
    refine (total_fn (x := x) ho hl hb hn).mono fun v η' ⟨h4, h5⟩ => ⟨?_, [], h5⟩
    rw [h4]; unfold compL; rw [if_pos h]
  · rw [show kMakes x.op.toNat = 91 by rw [h]; rfl]
    cases xs with
    | nil => simp at h1
    | cons y ys =>
      refine (kinds1_fn (x := x) (ho.row (η := seg :: η) (by simp)) (by omega)).mono fun v η' ⟨h4, h5⟩ => ⟨?_, [seg], h5⟩
      rw [h4]; unfold compL; rw [if_neg (by omega), if_pos h]
  · rw [show kMakes x.op.toNat = 93 by rw [h]; rfl]
    refine (rest_fn (x := x) ho hl hb ⟨hm h, hn.2⟩).mono fun v η' ⟨h4, h5⟩ => ⟨?_, [], h5⟩
    rw [h4]; unfold compL; rw [if_neg (by omega), if_neg (by omega)]
set_option maxHeartbeats 2000000 in
theorem listed_fn {g : Nat} [Ent Tryd.prog g] {cap : Array Value} {n : Nat} {F : Nat → Int} (hn : n ≤ 1000) (hof : ∀ i, i < n → ∀ s : Seg, Rt Tryd.prog g ([] ++ [Value.int .i64 (i : Int)] ++ cap.toList).toArray S w0 (s :: η) (fun v η' => v = .int .i64 (F i) ∧ η' = s :: η)) :
    Rt Tryd.prog 41 [.int .i64 (n : Int), .func (.func g) #[] cap].toArray S w0 η (fun v η' => ∃ b, v = .slice (some ⟨b, 0, none⟩) n n ∧ η' = iseg b n F :: η) := by
  have hF := open_wide
  refine Rt.of (fn := Tryd.f41) Tryd.func41 rfl rfl ?_
  refine T.seq ?_
  refine T.region ?_
  refine TL.assign hF rfl rfl ?_
  refine TL.nil ?_
  refine TQ.then_n ?_
  refine T.seq ?_
  refine T.region ?_
  refine TL.move hF rfl rfl ?_
  refine TL.makeSlice hF rfl rfl rfl (by omega) (by omega) rfl (fun b8 => ?_)
  rw [intC_zero]
  refine TL.assign hF rfl rfl ?_
  refine TL.nil ?_
  refine TQ.then_n ?_
  refine T.seq ?_
  refine T.seq ?_
  refine T.region ?_
  refine TL.move hF rfl rfl ?_
  refine TL.len hF rfl rfl ?_
  refine TL.move hF rfl rfl ?_
  refine TL.nil ?_
  refine TQ.then_n ?_
  refine T.block ?_
  refine T.loop (ι := Nat) (fun k => k ≤ n) (fun k => [(1, .func (.func g) #[] cap), (4, .slice none 0 0), (5, .slice (some ⟨b8, 0, none⟩) n n), (10, .int .i64 (n : Int)), (11, .int .i64 (k : Int))]) (fun k => iseg b8 n (fun i => if i < k then F i else 0) :: η) (fun k => n - k) 0 (Nat.zero_le _) ⟨rfl, rfl, rfl, rfl, rfl, trivial⟩ (iseg_congr (fun i _ => by simp)) ?_
  intro k hk
  refine T.seq ?_
  refine T.region ?_
  refine TL.bin hF rfl rfl rfl rfl ?_
  refine TL.nil ?_
  refine TQ.then_n ?_
  refine T.seq ?_
  first | refine T.cond_d rfl (fun ht12 => ?_) (fun ht12 => ?_) | refine T.cond _ rfl (fun ht12 => ?_) (fun ht12 => ?_)
  · refine T.skip ?_
    refine TQ.then_n ?_
    refine T.seq ?_
    refine T.block ?_
    refine T.seq ?_
    refine T.region ?_
    refine TL.move hF rfl rfl ?_
    refine TL.assign hF rfl rfl ?_
    refine TL.nil ?_
    refine TQ.then_n ?_
    refine T.region ?_
    refine TL.move hF rfl rfl ?_
    refine TL.move hF rfl rfl ?_
    refine TL.move hF rfl rfl ?_
    refine TL.move hF rfl rfl ?_
    refine TL.callV hF (hof k (by omega) _) rfl rfl ?_
    refine TL.indexAddr hF rfl rfl ⟨_, rfl, rfl⟩ (by omega) (by omega) rfl ?_
    refine TL.storeI hF 0 rfl rfl rfl rfl (by simp [intC_len]; omega) ?_
    refine TL.nil ?_
    refine TQ.block_n ?_
    refine TQ.then_n ?_
    refine T.region ?_
    refine TL.add hF rfl rfl (by omega) (by omega) rfl ?_
    refine TL.move hF rfl rfl ?_
    refine TL.nil ?_
    exact TQ.round (k + 1) (by omega) (by omega) ⟨rfl, rfl, rfl, rfl, rfl, trivial⟩ (iseg_set (j := k) (by simp) (fun i _ => by
      by_cases h : i = k
      · subst h; simp
      · rw [if_neg h]
        by_cases h2 : i < k
        · rw [if_pos h2, if_pos (by omega)]
        · rw [if_neg h2, if_neg (by omega)]))
  · refine T.exit ?_
    refine TQ.then_x ?_
    refine TQ.then_x ?_
    refine TQ.block_x ?_
    refine TQ.then_n ?_
    refine T.seq ?_
    refine T.region ?_
    refine TL.move hF rfl rfl ?_
    refine TL.assign hF rfl rfl ?_
    refine TL.nil ?_
    refine TQ.then_n ?_
    refine T.ret ?_
    refine TQ.rets [4] _ rfl rfl rfl ?_
    exact ⟨b8, rfl, iseg_congr (fun i hi => by rw [if_pos (by omega)])⟩
set_option maxHeartbeats 2000000 in
theorem none_fn (i : Int) :
    Rt Tryd.prog 53 [.int .i64 i].toArray S w0 η (fun v η' => v = .int .i64 (-1) ∧ η' = η) := by
  have hF := open_wide
  refine Rt.of (fn := Tryd.f53) Tryd.func53 rfl rfl ?_
  refine T.seq ?_
  refine T.region ?_
  refine TL.assign hF rfl rfl ?_
  refine TL.nil ?_
  refine TQ.then_n ?_
  refine T.seq ?_
  refine T.region ?_
  refine TL.assign hF rfl rfl ?_
  refine TL.nil ?_
  refine TQ.then_n ?_
  refine T.ret ?_
  refine TQ.rets [2] _ rfl rfl rfl ?_
  exact ⟨rfl, rfl⟩
end Go.Proofs.YtefkmiomldhmjaaDoor
/- Words from scratch, by the reference. -/
namespace Go.Proofs.YtefkmiomldhmjaaDoor
open Go.Sl
variable {S : Nat → Prop} {w0 : World} {η : Heap}
def wholeF (l : List NodeD) (V : Nat → Int) (k : Nat) : Nat → Int := (List.range k).foldl (fun W i => if (nd l i).op = 0 then W else upd W i (comp (nd l i) W)) V
theorem wholeF_succ (l : List NodeD) (V : Nat → Int) (k : Nat) : wholeF l V (k + 1) = if (nd l k).op = 0 then wholeF l V k else upd (wholeF l V k) k (comp (nd l k) (wholeF l V k)) := fold_succ _ _ _
theorem wholeF_range {l : List NodeD} (hok : Ok l) {V : Nat → Int} (hV : ∀ i, -2147483648 ≤ V i ∧ V i ≤ 2147483647) : ∀ k, k ≤ l.length → ∀ i, -2147483648 ≤ wholeF l V k i ∧ wholeF l V k i ≤ 2147483647
  | 0, _, i => hV i
  | k + 1, hk, i => by
    have ih := wholeF_range hok hV k (by omega)
    rw [wholeF_succ]
    split
    · exact ih i
    · rename_i h0
      unfold upd; split
      · rw [nd_eq (by omega)] at h0 ⊢
        exact comp_range (fun f _ => ih f.toNat) (hok.word k (by omega)) (fun h1 h2 => hok.mod k (by omega) (by have := hok.op0 k (by omega); have := hok.op3 k (by omega); omega))
      · exact ih i
def inV (l : List NodeD) (ws : List Int) (k i : Nat) : Int := if i < k ∧ (nd l i).op = 0 then ws.getD (rk l i) 0 else 0
theorem wholeF_scr {l : List NodeD} (hok : Ok l) (ws : List Int) : ∀ k, k ≤ l.length → ∀ i, i < l.length → wholeF l (inV l ws l.length) k i = if i < k then scrF l ws k i else inV l ws l.length i
  | 0, _, i, _ => by simp [wholeF]
  | k + 1, hk, i, hi => by
    have ih := wholeF_scr hok ws k (by omega)
    rw [wholeF_succ, scrF_succ]
    have hc : comp (nd l k) (wholeF l (inV l ws l.length) k) = comp (nd l k) (scrF l ws k) := comp_congr fun f hf => by
      rw [nd_eq (by omega)] at hf
      have := hok.fr k (by omega) f hf
      rw [ih f.toNat (by omega), if_pos (by omega)]
    by_cases h0 : (nd l k).op = 0
    · rw [if_pos h0, if_pos h0, ih i hi]
      by_cases hik : i = k
      · subst hik
        rw [if_neg (by omega), if_pos (by omega), upd_same]
        unfold inV; rw [if_pos ⟨hi, h0⟩]
      · rw [upd_ne _ _ hik]
        by_cases h : i < k
        · rw [if_pos h, if_pos (by omega)]
        · rw [if_neg h, if_neg (by omega)]
    · rw [if_neg h0, if_neg h0, hc]
      by_cases hik : i = k
      · subst hik; rw [upd_same, upd_same, if_pos (by omega)]
      · rw [upd_ne _ _ hik, upd_ne _ _ hik, ih i hi]
        by_cases h : i < k
        · rw [if_pos h, if_pos (by omega)]
        · rw [if_neg h, if_neg (by omega)]
theorem rk_succ {l : List NodeD} {k : Nat} (hk : k < l.length) : rk l (k + 1) = rk l k + if l[k].op = 0 then 1 else 0 := by
  unfold rk nIn
  rw [List.take_succ_eq_append_getElem hk, List.countP_append]
  by_cases h : l[k].op = 0
  · simp [h]
  · simp [h]
theorem rk_le (l : List NodeD) (k : Nat) : rk l k ≤ k := by
  unfold rk nIn
  have h1 := List.countP_le_length (p := fun x : NodeD => decide (x.op = 0)) (l := l.take k)
  have h2 : (l.take k).length ≤ k := by simp; omega
  omega
theorem rk_mono (l : List NodeD) {k : Nat} (_h : k ≤ l.length) : rk l k ≤ nIn l := by
  unfold rk nIn
  exact (List.take_sublist k l).countP_le

set_option maxHeartbeats 2000000 in
theorem Whole_fn {a : Option Addr} {l : List NodeD} {c : Nat} (hn : Nodes S w0 [] a l) (hl : l.length < 2 ^ 63) (hfl : ∀ x ∈ l, x.fr.length < 2 ^ 63) {aw : Option Addr} {cw : Nat} {V : Nat → Int} (hok : Ok l) (hw : Row S w0 η aw (intC l.length V)) (hV : ∀ i, -2147483648 ≤ V i ∧ V i ≤ 2147483647) :
    Rt Tryd.prog 44 [.slice a l.length c, .slice aw l.length cw].toArray S w0 η (fun v η' => ∃ b c cur, v = .slice (some ⟨b, 0, none⟩) l.length c ∧ η' = cseg b cur :: η ∧ OIs b c l.length (wholeF l V l.length) cur) := by
  have hF := open_wide
  refine Rt.of (fn := Tryd.f44) Tryd.func44 rfl rfl ?_
  refine T.seq ?_
  refine T.region ?_
  refine TL.assign hF rfl rfl ?_
  refine TL.nil ?_
  refine TQ.then_n ?_
  refine T.seq ?_
  refine T.region ?_
  have hlen := hok.len
  have hpos := hok.pos
  refine TL.buildSlice hF rfl (cs := #[]) (e := 3) (fun w => by kernel_rfl) rfl (fun b7 => ?_)
  refine TL.move hF rfl rfl ?_
  refine TL.append hF 0 rfl rfl rfl (osl_fresh (e := 3) (sz := 1) (n := 0) (xs := []) rfl) (hw.up upc).src rfl (by simp [intC_len]) (intC1 _ _) (by omega) (by omega) rfl (fun a' cap' seg' ho' => ?_)
  simp only [List.nil_append, Nat.zero_add] at ho' ⊢
  refine TL.assign hF rfl rfl ?_
  refine TL.nil ?_
  refine TQ.then_n ?_
  refine T.seq ?_
  refine T.seq ?_
  refine T.region ?_
  refine TL.assign hF rfl rfl ?_
  refine TL.nil ?_
  refine TQ.then_n ?_
  refine T.block ?_
  obtain ⟨bo, cur, rfl, rfl, ho⟩ := OIs.of ho' (by omega)
  refine T.loop (ι := Nat × Array Value) (fun i => i.1 ≤ l.length ∧ OIs bo cap' l.length (wholeF l V i.1) i.2) (fun i => [(0, .slice a l.length c), (4, .slice none 0 0), (5, .slice (some ⟨bo, 0, none⟩) l.length cap'), (6, .int .i64 (i.1 : Int))]) (fun i => cseg bo i.2 :: η) (fun i => l.length - i.1) (0, cur) ⟨Nat.zero_le _, ho⟩ ⟨rfl, rfl, rfl, rfl, trivial⟩ rfl ?_
  rintro ⟨k, cu⟩ ⟨hk, hc⟩
  simp only at hk hc
  refine T.seq ?_
  refine T.seq ?_
  refine T.region ?_
  refine TL.move hF rfl rfl ?_
  refine TL.move hF rfl rfl ?_
  refine TL.len hF rfl rfl ?_
  refine TL.bin hF rfl rfl rfl rfl ?_
  refine TL.nil ?_
  refine TQ.then_n ?_
  first | refine T.cond_d rfl (fun ht13 => ?_) (fun ht13 => ?_) | refine T.cond _ rfl (fun ht13 => ?_) (fun ht13 => ?_)
  · refine T.skip ?_
    refine TQ.then_n ?_
    refine T.seq ?_
    refine T.block ?_
    refine T.seq ?_
    refine T.region ?_
    refine TL.move hF rfl rfl ?_
    refine TL.move hF rfl rfl ?_
    refine TL.indexAddr hF rfl rfl (hn.ad (i := k) (by omega)) (by omega) (by omega) rfl ?_
    refine TL.fieldAddr hF rfl rfl ?_
    refine TL.load hF rfl (hn.ro.at (i := k) (by omega) 0 rfl) rfl ?_
    refine TL.bin hF rfl rfl rfl rfl ?_
    refine TL.nil ?_
    refine TQ.then_n ?_
    first | refine T.cond_d rfl (fun ht21 => ?_) (fun ht21 => ?_) | refine T.cond _ rfl (fun ht21 => ?_) (fun ht21 => ?_)
    · refine T.region ?_
      refine TL.move hF rfl rfl ?_
      refine TL.move hF rfl rfl ?_
      refine TL.move hF rfl rfl ?_
      refine TL.move hF rfl rfl ?_
      refine TL.indexAddr hF rfl rfl (hn.ad (i := k) (by omega)) (by omega) (by omega) rfl ?_
      refine TL.loadA hF (l[k]'(by omega)).cells rfl rfl (hn.ro.atA (i := k) (by omega)) rfl ?_
      refine TL.move hF rfl rfl ?_
      refine TL.callV hF (Computed_fn (x := (l[k]'(by omega))) (hn.frow (i := k) (by omega)) (hfl _ (List.getElem_mem _)) (hc.row (by simp)) (fun f hf => by have := hok.fr k (by omega) f hf; omega) (fun f _ => wholeF_range hok hV k (by omega) f.toNat) (hok.word k (by omega)) (fun h1 h2 => hok.mod k (by omega) (by have := hok.op0 k (by omega); have := hok.op3 k (by omega); omega))) rfl rfl ?_
      refine TL.indexAddr hF rfl rfl ⟨_, rfl, rfl⟩ (by omega) (by omega) rfl ?_
      refine TL.storeI hF 0 rfl rfl rfl rfl (by have := hc.size; simp; omega) ?_
      refine TL.nil ?_
      refine TQ.block_n ?_
      refine TQ.then_n ?_
      refine T.region ?_
      refine TL.move hF rfl rfl ?_
      refine TL.add hF rfl rfl (by omega) (by omega) rfl ?_
      refine TL.assign hF rfl rfl ?_
      refine TL.nil ?_
      refine TQ.round (k + 1, cu.setIfInBounds k (.int .i64 (comp (l[k]'(by omega)) (wholeF l V k)))) ⟨by simp only; omega, ?_⟩ (by simp only; omega) ⟨rfl, rfl, rfl, rfl, trivial⟩ (by simp)
      simp only
      rw [wholeF_succ, nd_eq (by omega), if_neg ht21]; exact hc.put _ _
    · refine T.skip ?_
      refine TQ.block_n ?_
      refine TQ.then_n ?_
      refine T.region ?_
      refine TL.move hF rfl rfl ?_
      refine TL.add hF rfl rfl (by omega) (by omega) rfl ?_
      refine TL.assign hF rfl rfl ?_
      refine TL.nil ?_
      refine TQ.round (k + 1, cu) ⟨by simp only; omega, ?_⟩ (by simp only; omega) ⟨rfl, rfl, rfl, rfl, trivial⟩ rfl
      simp only
      rw [wholeF_succ, nd_eq (by omega), if_pos (by omega)]; exact hc
  · refine T.exit ?_
    refine TQ.then_x ?_
    refine TQ.then_x ?_
    refine TQ.block_x ?_
    refine TQ.then_n ?_
    refine T.seq ?_
    refine T.region ?_
    refine TL.move hF rfl rfl ?_
    refine TL.assign hF rfl rfl ?_
    refine TL.nil ?_
    refine TQ.then_n ?_
    refine T.ret ?_
    refine TQ.rets [4] _ rfl rfl rfl ?_
    have hkn : k = l.length := by omega
    subst hkn
    exact ⟨bo, cap', cu, rfl, rfl, hc⟩
set_option maxHeartbeats 2000000 in
theorem Scratch_ref {a : Option Addr} {l : List NodeD} {c : Nat} (hn : Nodes S w0 [] a l) (hl : l.length < 2 ^ 63) (hfl : ∀ x ∈ l, x.fr.length < 2 ^ 63) {aw : Option Addr} {cw : Nat} {ws : List Int} (hw : Row S w0 [] aw (ints ws)) (hwl : ws.length < 2 ^ 63) :
    Rt Tryd.prog 15 [.slice a l.length c, .slice aw ws.length cw].toArray S w0 η (fun v η' => ∃ a cap segs, v = .tuple #[.slice a (scratchS l ws).1.length cap, .int .i64 (scratchS l ws).2] ∧ η' = segs ++ η ∧ Row S w0 segs a (ints (scratchS l ws).1)) := by
  have hF := open_wide
  refine Rt.of (fn := Tryd.f15) Tryd.func15 rfl rfl ?_
  refine T.seq ?_
  refine T.region ?_
  refine TL.assign hF rfl rfl ?_
  refine TL.assign hF rfl rfl ?_
  refine TL.nil ?_
  refine TQ.then_n ?_
  refine T.seq ?_
  refine T.seq ?_
  refine T.region ?_
  refine TL.move hF rfl rfl ?_
  refine TL.callV hF (Valid_fn hn hl hfl) rfl rfl ?_
  refine TL.not hF rfl rfl ?_
  refine TL.nil ?_
  refine TQ.then_n ?_
  refine T.cond _ rfl (fun hv => ?_) (fun hv => ?_)
  all_goals simp at hv
  · refine T.seq ?_
    refine T.region ?_
    refine TL.assign hF rfl rfl ?_
    refine TL.assign hF rfl rfl ?_
    refine TL.nil ?_
    refine TQ.then_n ?_
    refine T.ret ?_
    refine TQ.then_r ?_
    refine TQ.rets [4, 5] _ rfl rfl rfl ?_
    have e : scratchS l ws = ([], 1) := by unfold scratchS; rw [if_neg (by simp [hv])]
    exact ⟨none, 0, [], by rw [e]; rfl, rfl, by rw [e]; exact Row.none⟩
  · refine T.skip ?_
    refine TQ.then_n ?_
    refine T.seq ?_
    refine T.region ?_
    refine TL.move hF rfl rfl ?_
    refine TL.len hF rfl rfl ?_
    have hok := ok_of hv
    have hlen := hok.len
    refine TL.makeSlice hF rfl rfl rfl (by omega) (by omega) rfl (fun b15 => ?_)
    rw [intC_zero]
    refine TL.assign hF rfl rfl ?_
    refine TL.nil ?_
    refine TQ.then_n ?_
    refine T.seq ?_
    refine T.region ?_
    refine TL.assign hF rfl rfl ?_
    refine TL.nil ?_
    refine TQ.then_n ?_
    refine T.seq ?_
    refine T.seq ?_
    refine T.region ?_
    refine TL.assign hF rfl rfl ?_
    refine TL.nil ?_
    refine TQ.then_n ?_
    refine T.block ?_
    refine T.loop (ι := Nat) (fun k => k ≤ l.length) (fun k => [(0, .slice a l.length c), (1, .slice aw ws.length cw), (4, .slice none 0 0), (5, .int .i64 0), (6, .slice (some ⟨b15, 0, none⟩) l.length l.length), (7, .int .i64 (rk l k : Int)), (8, .int .i64 (k : Int))]) (fun k => iseg b15 l.length (inV l ws k) :: η) (fun k => l.length - k) 0 (Nat.zero_le _) ⟨rfl, rfl, rfl, rfl, rfl, rfl, rfl, trivial⟩ (iseg_congr (fun i _ => by simp [inV])) ?_
    intro k hk
    have hrk := rk_le l k
    refine T.seq ?_
    refine T.seq ?_
    refine T.region ?_
    refine TL.move hF rfl rfl ?_
    refine TL.move hF rfl rfl ?_
    refine TL.len hF rfl rfl ?_
    refine TL.bin hF rfl rfl rfl rfl ?_
    refine TL.nil ?_
    refine TQ.then_n ?_
    first | refine T.cond_d rfl (fun ht19 => ?_) (fun ht19 => ?_) | refine T.cond _ rfl (fun ht19 => ?_) (fun ht19 => ?_)
    · refine T.skip ?_
      refine TQ.then_n ?_
      refine T.seq ?_
      refine T.block ?_
      refine T.seq ?_
      refine T.region ?_
      refine TL.move hF rfl rfl ?_
      refine TL.move hF rfl rfl ?_
      refine TL.indexAddr hF rfl rfl (hn.ad (i := k) (by omega)) (by omega) (by omega) rfl ?_
      refine TL.fieldAddr hF rfl rfl ?_
      refine TL.load hF rfl (hn.ro.at (i := k) (by omega) 0 rfl) rfl ?_
      refine TL.bin hF rfl rfl rfl rfl ?_
      refine TL.nil ?_
      refine TQ.then_n ?_
      first | refine T.cond_d rfl (fun ht27 => ?_) (fun ht27 => ?_) | refine T.cond _ rfl (fun ht27 => ?_) (fun ht27 => ?_)
      · refine T.seq ?_
        refine T.seq ?_
        refine T.region ?_
        refine TL.move hF rfl rfl ?_
        refine TL.move hF rfl rfl ?_
        refine TL.len hF rfl rfl ?_
        refine TL.bin hF rfl rfl rfl rfl ?_
        refine TL.nil ?_
        refine TQ.then_n ?_
        first | refine T.cond_d rfl (fun ht31 => ?_) (fun ht31 => ?_) | refine T.cond _ rfl (fun ht31 => ?_) (fun ht31 => ?_)
        · refine T.region ?_
          refine TL.move hF rfl rfl ?_
          refine TL.move hF rfl rfl ?_
          refine TL.move hF rfl rfl ?_
          refine TL.move hF rfl rfl ?_
          refine TL.indexAddr hF rfl rfl (hw.adi (i := rk l k) (by simp; omega)) (by omega) (by omega) rfl ?_
          refine TL.load hF rfl (hw.ro.int (i := rk l k) (by omega)) rfl ?_
          refine TL.indexAddr hF rfl rfl ⟨_, rfl, rfl⟩ (by omega) (by omega) rfl ?_
          refine TL.storeI hF 0 rfl rfl rfl rfl (by simp [intC_len]; omega) ?_
          refine TL.nil ?_
          refine TQ.then_n ?_
          refine T.region ?_
          refine TL.move hF rfl rfl ?_
          refine TL.add hF rfl rfl (by omega) (by omega) rfl ?_
          refine TL.assign hF rfl rfl ?_
          refine TL.nil ?_
          refine TQ.block_n ?_
          refine TQ.then_n ?_
          refine T.region ?_
          refine TL.move hF rfl rfl ?_
          refine TL.add hF rfl rfl (by omega) (by omega) rfl ?_
          refine TL.assign hF rfl rfl ?_
          refine TL.nil ?_
          refine TQ.round (k + 1) (by omega) (by omega) ⟨rfl, rfl, rfl, rfl, rfl, congrArg (fun z => some (Value.int .i64 z)) (by rw [rk_succ (by omega), if_pos ht27]; simp), rfl, trivial⟩ (iseg_set (j := k) (by simp) (fun i _ => ?_))
          unfold inV
          by_cases h : i = k
          · subst h; rw [if_pos rfl, if_pos ⟨by omega, by rw [nd_eq (by omega)]; exact ht27⟩, List.getD_eq_getElem?_getD, List.getElem?_eq_getElem (by omega)]; rfl
          · rw [if_neg h]
            by_cases h2 : i < k
            · simp only [show i < k + 1 by omega, h2]
            · rw [if_neg (by omega), if_neg (by omega)]
        · refine T.skip ?_
          refine TQ.then_n ?_
          refine T.region ?_
          refine TL.move hF rfl rfl ?_
          refine TL.add hF rfl rfl (by omega) (by omega) rfl ?_
          refine TL.assign hF rfl rfl ?_
          refine TL.nil ?_
          refine TQ.block_n ?_
          refine TQ.then_n ?_
          refine T.region ?_
          refine TL.move hF rfl rfl ?_
          refine TL.add hF rfl rfl (by omega) (by omega) rfl ?_
          refine TL.assign hF rfl rfl ?_
          refine TL.nil ?_
          refine TQ.round (k + 1) (by omega) (by omega) ⟨rfl, rfl, rfl, rfl, rfl, congrArg (fun z => some (Value.int .i64 z)) (by rw [rk_succ (by omega), if_pos ht27]; simp), rfl, trivial⟩ (iseg_congr (fun i _ => ?_))
          unfold inV
          by_cases h : i = k
          · subst h; rw [if_neg (by omega), if_pos ⟨by omega, by rw [nd_eq (by omega)]; exact ht27⟩, List.getD_eq_getElem?_getD, List.getElem?_eq_none (by omega)]; rfl
          · by_cases h2 : i < k
            · simp only [show i < k + 1 by omega, h2]
            · rw [if_neg (by omega), if_neg (by omega)]
      · refine T.skip ?_
        refine TQ.block_n ?_
        refine TQ.then_n ?_
        refine T.region ?_
        refine TL.move hF rfl rfl ?_
        refine TL.add hF rfl rfl (by omega) (by omega) rfl ?_
        refine TL.assign hF rfl rfl ?_
        refine TL.nil ?_
        refine TQ.round (k + 1) (by omega) (by omega) ⟨rfl, rfl, rfl, rfl, rfl, congrArg (fun z => some (Value.int .i64 z)) (by rw [rk_succ (by omega), if_neg ht27]; simp), rfl, trivial⟩ (iseg_congr (fun i _ => ?_))
        unfold inV
        by_cases h : i = k
        · subst h; rw [if_neg (by omega), if_neg (by rw [nd_eq (by omega)]; omega)]
        · by_cases h2 : i < k
          · simp only [show i < k + 1 by omega, h2]
          · rw [if_neg (by omega), if_neg (by omega)]
    · refine T.exit ?_
      refine TQ.then_x ?_
      refine TQ.then_x ?_
      refine TQ.block_x ?_
      refine TQ.then_n ?_
      refine T.seq ?_
      refine T.seq ?_
      refine T.region ?_
      refine TL.move hF rfl rfl ?_
      refine TL.move hF rfl rfl ?_
      refine TL.len hF rfl rfl ?_
      refine TL.bin hF rfl rfl rfl rfl ?_
      refine TL.nil ?_
      refine TQ.then_n ?_
      first | refine T.cond_d rfl (fun ht44 => ?_) (fun ht44 => ?_) | refine T.cond _ rfl (fun ht44 => ?_) (fun ht44 => ?_)
      · refine T.seq ?_
        refine T.region ?_
        refine TL.assign hF rfl rfl ?_
        refine TL.assign hF rfl rfl ?_
        refine TL.nil ?_
        refine TQ.then_n ?_
        refine T.ret ?_
        refine TQ.then_r ?_
        refine TQ.rets [4, 5] _ rfl rfl rfl ?_
        have hkn : k = l.length := by omega
        subst hkn
        have hrn : rk l l.length = nIn l := by unfold rk; rw [List.take_length]
        have e : scratchS l ws = ([], 2) := by unfold scratchS; rw [if_pos hv, if_neg (by omega)]
        exact ⟨none, 0, [_], by rw [e]; rfl, rfl, by rw [e]; exact Row.none⟩
      · refine T.skip ?_
        refine TQ.then_n ?_
        refine T.seq ?_
        refine T.seq ?_
        refine T.region ?_
        refine TL.assign hF rfl rfl ?_
        refine TL.nil ?_
        refine TQ.then_n ?_
        refine T.block ?_
        have hkn : k = l.length := by omega
        subst hkn
        have hrn : rk l l.length = nIn l := by unfold rk; rw [List.take_length]
        refine T.loop (ι := Nat) (fun k => k ≤ ws.length ∧ ws.all isW = (ws.drop k).all isW) (fun k => [(0, .slice a l.length c), (1, .slice aw ws.length cw), (4, .slice none 0 0), (5, .int .i64 0), (6, .slice (some ⟨b15, 0, none⟩) l.length l.length), (9, .int .i64 (k : Int))]) (fun _ => iseg b15 l.length (inV l ws l.length) :: η) (fun k => ws.length - k) 0 ⟨Nat.zero_le _, by simp⟩ ⟨rfl, rfl, rfl, rfl, rfl, rfl, trivial⟩ rfl ?_
        rintro k ⟨hk, hs⟩
        refine T.seq ?_
        refine T.seq ?_
        refine T.region ?_
        refine TL.move hF rfl rfl ?_
        refine TL.move hF rfl rfl ?_
        refine TL.len hF rfl rfl ?_
        refine TL.bin hF rfl rfl rfl rfl ?_
        refine TL.nil ?_
        refine TQ.then_n ?_
        first | refine T.cond_d rfl (fun ht48 => ?_) (fun ht48 => ?_) | refine T.cond _ rfl (fun ht48 => ?_) (fun ht48 => ?_)
        · refine T.skip ?_
          refine TQ.then_n ?_
          refine T.seq ?_
          refine T.block ?_
          refine T.seq ?_
          refine T.region ?_
          refine TL.move hF rfl rfl ?_
          refine TL.move hF rfl rfl ?_
          refine TL.indexAddr hF rfl rfl (hw.adi (i := k) (by simp; omega)) (by omega) (by omega) rfl ?_
          refine TL.load hF rfl (hw.ro.int (i := k) (by omega)) rfl ?_
          refine TL.callV hF (IsWord_fn _) rfl rfl ?_
          refine TL.not hF rfl rfl ?_
          refine TL.nil ?_
          refine TQ.then_n ?_
          refine T.cond _ rfl (fun hb => ?_) (fun hb => ?_)
          all_goals simp at hb
          · refine T.seq ?_
            refine T.region ?_
            refine TL.assign hF rfl rfl ?_
            refine TL.assign hF rfl rfl ?_
            refine TL.nil ?_
            refine TQ.then_n ?_
            refine T.ret ?_
            refine TQ.block_r ?_
            refine TQ.then_r ?_
            refine TQ.then_r ?_
            refine TQ.block_r ?_
            refine TQ.then_r ?_
            refine TQ.rets [4, 5] _ rfl rfl rfl ?_
            have e : scratchS l ws = ([], 2) := by unfold scratchS; rw [if_pos hv, if_pos (by omega), if_neg (by rw [hs, drop_step (by omega), List.all_cons, hb]; simp)]
            exact ⟨none, 0, [_], by rw [e]; rfl, rfl, by rw [e]; exact Row.none⟩
          · refine T.skip ?_
            refine TQ.block_n ?_
            refine TQ.then_n ?_
            refine T.region ?_
            refine TL.move hF rfl rfl ?_
            refine TL.add hF rfl rfl (by omega) (by omega) rfl ?_
            refine TL.assign hF rfl rfl ?_
            refine TL.nil ?_
            refine TQ.round (k + 1) ⟨by omega, by rw [hs, drop_step (by omega), List.all_cons, hb, Bool.true_and]⟩ (by omega) ⟨rfl, rfl, rfl, rfl, rfl, rfl, trivial⟩ rfl
        · refine T.exit ?_
          refine TQ.then_x ?_
          refine TQ.then_x ?_
          refine TQ.block_x ?_
          refine TQ.then_n ?_
          refine T.seq ?_
          refine T.region ?_
          refine TL.move hF rfl rfl ?_
          refine TL.move hF rfl rfl ?_
          have hall : ws.all isW = true := by rw [hs, List.drop_of_length_le (by omega)]; rfl
          have hV : ∀ i, -2147483648 ≤ inV l ws l.length i ∧ inV l ws l.length i ≤ 2147483647 := fun i => by
            unfold inV; split
            · rw [List.getD_eq_getElem?_getD]
              cases hg : ws[rk l i]? with
              | none => simp
              | some v => exact isW_iff.1 (List.all_eq_true.1 hall v (List.mem_of_getElem? hg))
            · omega
          refine TL.call hF (Whole_fn hn hl hfl hok (row_own (e := 3) (by simp)) hV) rfl rfl ?_
          rintro _ _ ⟨b, cb, cur, rfl, rfl, ho⟩
          refine TL.assign hF rfl rfl ?_
          refine TL.assign hF rfl rfl ?_
          refine TL.nil ?_
          refine TQ.then_n ?_
          refine T.ret ?_
          refine TQ.rets [4, 5] _ rfl rfl rfl ?_
          have e : scratchS l ws = ((List.range l.length).map (scrF l ws l.length), 0) := by unfold scratchS; rw [if_pos hv, if_pos (by omega), if_pos hall]
          have ho2 := ho.congr (g := scrF l ws l.length) (fun i hi => by rw [wholeF_scr hok ws l.length (Nat.le_refl _) i hi, if_pos hi])
          exact ⟨some ⟨b, 0, none⟩, cb, [cseg b cur, iseg b15 l.length (inV l ws l.length)], by rw [e]; simp [retVal], rfl, by rw [e, ← intC_ints]; exact ho2.row (by simp)⟩
end Go.Proofs.YtefkmiomldhmjaaDoor
/- Words from scratch, by the program. -/
namespace Go.Proofs.YtefkmiomldhmjaaDoor
open Go.Sl
variable {S : Nat → Prop} {w0 : World} {η : Heap}
theorem _root_.Go.Sl.Rt.dropH {P : Program} {g : FuncId} {args : Array Value} {R R' : Value → Heap → Prop} (h : Rt P g args S w0 η R) (hr : ∀ v η', R v η' → ∃ η2, η2.Sublist η' ∧ R' v η2) : Rt P g args S w0 η R' := fun w hh =>
  (h w hh).mono fun _ _ ⟨v, η', h1, h2, h3⟩ => by
    obtain ⟨η2, hs, h4⟩ := hr v η' h3
    exact ⟨v, η2, h1, h2.seg hs, h4⟩
theorem makes_fn' {a : Option Addr} {x : NodeD} {xs : List Int} {c : Nat} {seg : Seg} (ho : OSl 3 1 (.slice a xs.length c) xs.length (ints xs) seg) (hop : 1 ≤ x.op ∧ x.op ≤ 3) (h1 : 1 ≤ xs.length) (hl : xs.length ≤ 90) (hb : ∀ f ∈ xs, -2147483648 ≤ f ∧ f ≤ 2147483647) (hn : -2147483648 ≤ x.n ∧ x.n ≤ 2147483647) (hm : x.op = 3 → 1 ≤ x.n) :
    Rt Tryd.prog (kMakes x.op.toNat) [.agg x.cells.toArray, .slice a xs.length c].toArray S w0 (seg :: η) (fun v η' => v = .int .i64 (compL x.op x.n xs) ∧ η' = η) :=
  (makes_fn ho hop h1 hl hb hn hm).dropH fun v η' ⟨h1, r, h2⟩ => ⟨η, by rw [h2]; exact List.sublist_append_right _ _, h1, rfl⟩
instance kEnt (o : Nat) : Ent Tryd.prog (kMakes o) := by
  unfold kMakes
  split
  · infer_instance
  · split
    · infer_instance
    · split <;> infer_instance
theorem intC_fr (fr : List Int) (W : Nat → Int) : intC fr.length (fun j => W (fr.getD j 0).toNat) = ints (fr.map fun f => W f.toNat) := by
  apply List.ext_getElem?
  intro i
  by_cases h : i < fr.length
  · rw [intC_get h]; simp [ints, h, List.getD_eq_getElem?_getD]
  · rw [List.getElem?_eq_none (by rw [intC_len]; omega), List.getElem?_eq_none (by simp; omega)]
theorem listed_osl {b : Nat} (fr : List Int) (W : Nat → Int) : OSl 3 1 (.slice (some ⟨b, 0, none⟩) (fr.map fun f => W f.toNat).length fr.length) (fr.map fun f => W f.toNat).length (ints (fr.map fun f => W f.toNat)) (iseg b fr.length fun j => W (fr.getD j 0).toNat) := by
  have := osl_fresh (e := 3) (sz := 1) (n := fr.length) (b := b) (xs := ints (fr.map fun f => W f.toNat)) (by simp)
  rw [List.length_map, iseg, intC_fr]; exact this
theorem scrF_ge (l : List NodeD) (ws : List Int) : ∀ k i, k ≤ i → scrF l ws k i = 0
  | 0, i, _ => rfl
  | k + 1, i, h => by rw [scrF_succ, upd_ne _ _ (by omega)]; exact scrF_ge l ws k i (by omega)
theorem scrF_range {l : List NodeD} (hok : Ok l) {ws : List Int} (hall : ws.all isW = true) : ∀ k, k ≤ l.length → ∀ i, -2147483648 ≤ scrF l ws k i ∧ scrF l ws k i ≤ 2147483647
  | 0, _, i => by simp [scrF]
  | k + 1, hk, i => by
    have ih := scrF_range hok hall k (by omega)
    rw [scrF_succ]
    unfold upd; split
    · split
      · rw [List.getD_eq_getElem?_getD]
        cases hg : ws[rk l k]? with
        | none => simp
        | some v => exact isW_iff.1 (List.all_eq_true.1 hall v (List.mem_of_getElem? hg))
      · rename_i h0
        rw [nd_eq (by omega)] at h0 ⊢
        exact comp_range (fun f _ => ih f.toNat) (hok.word k (by omega)) (fun h1 h2 => hok.mod k (by omega) (by have := hok.op0 k (by omega); have := hok.op3 k (by omega); omega))
    · exact ih i

set_option maxHeartbeats 2000000 in
theorem pickS_fn {hb nb bo n j : Nat} {x : NodeD} {W : Nat → Int} (h1 : [(hb, Obj.cells #[.slice (some ⟨bo, 0, none⟩) n n] 24 (0, 0))] ∈ η) (h2 : [(nb, Obj.cells x.cells.toArray 55 (0, 0))] ∈ η) (h3 : iseg bo n W ∈ η) (hf : Row S w0 [] x.fa (ints x.fr)) (hj : j < x.fr.length) (_hfl : x.fr.length < 2 ^ 63) (hin : ∀ f ∈ x.fr, 0 ≤ f ∧ f < n) :
    Rt Tryd.prog 42 [.int .i64 (j : Int), ptr hb, ptr nb].toArray S w0 η (fun v η' => v = .int .i64 (W (x.fr.getD j 0).toNat) ∧ η' = η) := by
  have hF := open_wide
  refine Rt.of (fn := Tryd.f42) Tryd.func42 rfl rfl ?_
  refine T.seq ?_
  refine T.region ?_
  refine TL.assign hF rfl rfl ?_
  refine TL.nil ?_
  refine TQ.then_n ?_
  refine T.seq ?_
  have hi := hin (x.fr[j]'hj) (List.getElem_mem _)
  refine T.draw ?_
  refine DR.stepV [_] rfl [(1, _, none)] rfl rfl ⟨⟨rfl, by kernel_rfl⟩, trivial⟩ (fun ext => TL.load hF rfl (own_mem h1 rfl) rfl TL.fin) ?_
  refine DR.stepV [_, _] rfl [(2, _, none)] rfl rfl ⟨⟨rfl, by kernel_rfl⟩, trivial⟩ (fun ext => TL.fieldAddr hF rfl rfl TL.fin) ?_
  refine DR.stepV [_, _, _] rfl [(6, _, some 1)] rfl rfl ⟨⟨rfl, rfl, rfl⟩, trivial⟩ (fun ext => TL.load hF rfl (own_mem h2 rfl) rfl TL.fin) ?_
  refine DR.stepV [_, _, _, _] rfl [(0, _, none)] rfl rfl ⟨⟨rfl, by kernel_rfl⟩, trivial⟩ (fun ext => TL.move hF rfl rfl TL.fin) ?_
  refine DR.stepV [_, _, _, _, _] rfl [(7, _, some 2), (8, _, some 3)] rfl rfl ⟨⟨rfl, rfl, rfl⟩, ⟨rfl, rfl, rfl⟩, trivial⟩ (fun ext => TL.indexAddr hF rfl rfl (hf.adi (i := j) (by simp; omega)) (by omega) (by omega) rfl TL.fin) ?_
  refine DR.stepV [_, _, _, _, _, _] rfl [(9, _, some 4)] rfl rfl ⟨⟨rfl, rfl, rfl⟩, trivial⟩ (fun ext => TL.load hF rfl (hf.ro.int (i := j) hj) rfl TL.fin) ?_
  refine DR.done [(10, _), (9, _), (8, _), (7, _), (6, _), (5, _)] [_, _, _] mixed (by kernel_rfl) (by kernel_rfl) (by kernel_rfl) rfl rfl ?_
  refine TL.indexAddr hF rfl rfl ⟨_, rfl, rfl⟩ (by omega) (by omega) rfl ?_
  refine TL.load hF rfl (iseg_at (f := W) (n := n) (b := bo) (j := (x.fr[j]'hj).toNat) h3 (by omega)) rfl ?_
  refine TL.assign hF rfl rfl ?_
  refine TL.nil ?_
  refine TQ.then_n ?_
  refine T.ret ?_
  refine TQ.rets [4] _ rfl rfl rfl ?_
  exact ⟨by simp [retVal, List.getD_eq_getElem?_getD, hj], rfl⟩
set_option maxHeartbeats 2000000 in
theorem Scratch_prog (hg : Kinds S w0) {a : Option Addr} {l : List NodeD} {c : Nat} (hn : Nodes S w0 [] a l) (hl : l.length < 2 ^ 63) (hfl : ∀ x ∈ l, x.fr.length < 2 ^ 63) {aw : Option Addr} {cw : Nat} {ws : List Int} (hw : Row S w0 [] aw (ints ws)) (hwl : ws.length < 2 ^ 63) :
    Rt Tryd.prog 14 [.slice a l.length c, .slice aw ws.length cw].toArray S w0 η (fun v η' => ∃ a cap segs, v = .tuple #[.slice a (scratchS l ws).1.length cap, .int .i64 (scratchS l ws).2] ∧ η' = segs ++ η ∧ Row S w0 segs a (ints (scratchS l ws).1)) := by
  have hF := open_wide
  refine Rt.ofL (fn := Tryd.f14) Tryd.func14 rfl rfl ?_
  refine T.seq ?_
  refine T.region ?_
  refine TL.assign hF rfl rfl ?_
  refine TL.alloc hF rfl (fun b5 => ?_)
  refine TL.nil ?_
  refine TQ.then_n ?_
  refine T.seq ?_
  refine T.region ?_
  refine TL.makeFunc hF rfl rfl rfl ?_
  refine TL.defer hF rfl rfl ?_
  refine TL.nil ?_
  refine TQ.then_n ?_
  refine T.seq ?_
  refine T.region ?_
  refine TL.move hF rfl rfl ?_
  refine TL.callE hF (check_fn hg hn hl hfl) rfl rfl ?_ ?_
  · rintro _ _ ⟨hv, rfl⟩
    have hok := ok_of hv
    have hlen := hok.len
    refine TL.nil ?_
    refine TQ.then_n ?_
    refine T.seq ?_
    refine T.region ?_
    refine TL.assign hF rfl rfl ?_
    refine TL.nil ?_
    refine TQ.then_n ?_
    refine T.seq ?_
    refine T.seq ?_
    refine T.region ?_
    refine TL.move hF rfl rfl ?_
    refine TL.len hF rfl rfl ?_
    refine TL.move hF rfl rfl ?_
    refine TL.nil ?_
    refine TQ.then_n ?_
    refine T.block ?_
    refine T.loop (ι := Nat) (fun k => k ≤ l.length) (fun k => [(0, .slice a l.length c), (1, .slice aw ws.length cw), (4, .slice none 0 0), (5, ptr b5), (6, .int .i64 (rk l k : Int)), (18, .slice a l.length c), (19, .int .i64 (l.length : Int)), (20, .int .i64 (k : Int))]) (fun _ => [(b5, .cells #[.int .i64 0] 27 (0, 0))] :: η) (fun k => l.length - k) 0 (Nat.zero_le _) ⟨rfl, rfl, rfl, rfl, rfl, rfl, rfl, rfl, trivial⟩ rfl ?_
    intro k hk
    have hrk := rk_le l k
    refine T.seq ?_
    refine T.region ?_
    refine TL.bin hF rfl rfl rfl rfl ?_
    refine TL.nil ?_
    refine TQ.then_n ?_
    refine T.seq ?_
    first | refine T.cond_d rfl (fun ht21 => ?_) (fun ht21 => ?_) | refine T.cond _ rfl (fun ht21 => ?_) (fun ht21 => ?_)
    · refine T.skip ?_
      refine TQ.then_n ?_
      refine T.seq ?_
      refine T.block ?_
      refine T.seq ?_
      refine T.region ?_
      refine TL.indexAddr hF rfl rfl (hn.ad (i := k) (by omega)) (by omega) (by omega) rfl ?_
      refine TL.loadA hF (l[k]'(by omega)).cells rfl rfl (hn.ro.atA (i := k) (by omega)) rfl ?_
      refine TL.alloc hF rfl (fun b8 => ?_)
      refine TL.storeAI hF (l[k]'(by omega)).cells 0 rfl rfl rfl rfl (ncells1 _) (by simp [Value.cells, ncl]) ?_
      refine TL.nil ?_
      refine TQ.then_n ?_
      refine T.seq ?_
      refine T.region ?_
      refine TL.fieldAddr hF rfl rfl ?_
      refine TL.load hF rfl (by first | exact At.own' (i := 0) rfl rfl | exact At.own' (i := 1) rfl rfl | exact At.own' (i := 2) rfl rfl | exact At.own' (i := 3) rfl rfl | exact At.own' (i := 4) rfl rfl | exact At.own' (i := 5) rfl rfl | exact At.own' (i := 6) rfl rfl | exact At.own' (i := 7) rfl rfl | exact At.own' (i := 8) rfl rfl | exact At.own' (i := 9) rfl rfl | exact At.own' (i := 10) rfl rfl | exact At.own' (i := 11) rfl rfl | exact At.own' (i := 12) rfl rfl) rfl ?_
      refine TL.bin hF rfl rfl rfl rfl ?_
      refine TL.nil ?_
      refine TQ.then_n ?_
      first | refine T.cond_d rfl (fun ht26 => ?_) (fun ht26 => ?_) | refine T.cond _ rfl (fun ht26 => ?_) (fun ht26 => ?_)
      · refine T.region ?_
        refine TL.move hF rfl rfl ?_
        refine TL.add hF rfl rfl (by omega) (by omega) rfl ?_
        refine TL.assign hF rfl rfl ?_
        refine TL.nil ?_
        refine TQ.block_n ?_
        refine TQ.then_n ?_
        refine T.region ?_
        refine TL.add hF rfl rfl (by omega) (by omega) rfl ?_
        refine TL.move hF rfl rfl ?_
        refine TL.nil ?_
        refine TQ.pop ?_
        exact TQ.round (k + 1) (by omega) (by omega) ⟨rfl, rfl, rfl, rfl, congrArg (fun z => some (Value.int .i64 z)) (by rw [rk_succ (by omega), if_pos ht26]; simp), rfl, rfl, rfl, trivial⟩ rfl
      · refine T.skip ?_
        refine TQ.block_n ?_
        refine TQ.then_n ?_
        refine T.region ?_
        refine TL.add hF rfl rfl (by omega) (by omega) rfl ?_
        refine TL.move hF rfl rfl ?_
        refine TL.nil ?_
        refine TQ.pop ?_
        exact TQ.round (k + 1) (by omega) (by omega) ⟨rfl, rfl, rfl, rfl, congrArg (fun z => some (Value.int .i64 z)) (by rw [rk_succ (by omega), if_neg ht26]; simp), rfl, rfl, rfl, trivial⟩ rfl
    · refine T.exit ?_
      refine TQ.then_x ?_
      refine TQ.then_x ?_
      refine TQ.block_x ?_
      refine TQ.then_n ?_
      refine T.seq ?_
      refine T.region ?_
      refine TL.move hF rfl rfl ?_
      refine TL.len hF rfl rfl ?_
      refine TL.move hF rfl rfl ?_
      refine TL.bin hF rfl rfl rfl rfl ?_
      refine TL.callM hF (must_fn _ 2) rfl rfl (fun hA _ => ?_) (fun hA => ?_)
      · skip
        refine TL.nil ?_
        refine TQ.then_n ?_
        refine T.seq ?_
        refine T.seq ?_
        refine T.region ?_
        refine TL.move hF rfl rfl ?_
        refine TL.len hF rfl rfl ?_
        refine TL.move hF rfl rfl ?_
        refine TL.nil ?_
        refine TQ.then_n ?_
        refine T.block ?_
        have hkn : k = l.length := by omega
        subst hkn
        have hrn : rk l l.length = nIn l := by unfold rk; rw [List.take_length]
        have hA' : nIn l = ws.length := by have := of_decide_eq_true hA; omega
        refine T.loop (ι := Nat) (fun k => k ≤ ws.length ∧ ws.all isW = (ws.drop k).all isW) (fun k => [(0, .slice a l.length c), (1, .slice aw ws.length cw), (4, .slice none 0 0), (5, ptr b5), (35, .slice aw ws.length cw), (36, .int .i64 (ws.length : Int)), (37, .int .i64 (k : Int))]) (fun _ => [(b5, .cells #[.int .i64 0] 27 (0, 0))] :: η) (fun k => ws.length - k) 0 ⟨Nat.zero_le _, by simp⟩ ⟨rfl, rfl, rfl, rfl, rfl, rfl, rfl, trivial⟩ rfl ?_
        rintro k ⟨hk, hs⟩
        refine T.seq ?_
        refine T.region ?_
        refine TL.bin hF rfl rfl rfl rfl ?_
        refine TL.nil ?_
        refine TQ.then_n ?_
        refine T.seq ?_
        first | refine T.cond_d rfl (fun ht38 => ?_) (fun ht38 => ?_) | refine T.cond _ rfl (fun ht38 => ?_) (fun ht38 => ?_)
        · refine T.skip ?_
          refine TQ.then_n ?_
          refine T.seq ?_
          refine T.block ?_
          refine T.seq ?_
          refine T.region ?_
          refine TL.indexAddr hF rfl rfl (hw.adi (i := k) (by simp; omega)) (by omega) (by omega) rfl ?_
          refine TL.load hF rfl (hw.ro.int (i := k) (by omega)) rfl ?_
          refine TL.assign hF rfl rfl ?_
          refine TL.nil ?_
          refine TQ.then_n ?_
          refine T.region ?_
          refine TL.move hF rfl rfl ?_
          refine TL.callV hF (within_fn _ _ _) rfl rfl ?_
          refine TL.callM hF (must_fn _ 2) rfl rfl (fun hB _ => ?_) (fun hB => ?_)
          · skip
            refine TL.nil ?_
            refine TQ.block_n ?_
            refine TQ.then_n ?_
            refine T.region ?_
            refine TL.add hF rfl rfl (by omega) (by omega) rfl ?_
            refine TL.move hF rfl rfl ?_
            refine TL.nil ?_
            refine TQ.round (k + 1) ⟨by omega, by rw [hs, drop_step (by omega), List.all_cons, show isW (ws[k]'(by omega)) = true from hB, Bool.true_and]⟩ (by omega) ⟨rfl, rfl, rfl, rfl, rfl, rfl, rfl, trivial⟩ rfl
          · skip
            refine TQ.block_p ?_
            refine TQ.then_p ?_
            refine TQ.then_p ?_
            refine TQ.block_p ?_
            refine TQ.then_p ?_
            refine TQ.panL [4] [.slice none 0 0] stop38 (stopped_err _) rfl rfl rfl (At.own' (i := 0) rfl rfl) ?_
            have e : scratchS l ws = ([], 2) := by unfold scratchS; rw [if_pos hv, if_pos hA', if_neg (by rw [hs, drop_step (by omega), List.all_cons, show isW (ws[k]'(by omega)) = false from hB]; simp)]
            rw [e]
            exact ⟨none, 0, [[(b5, .cells #[.int .i64 2] 27 (0, 0))]], rfl, rfl, Row.none⟩
        · refine T.exit ?_
          refine TQ.then_x ?_
          refine TQ.then_x ?_
          refine TQ.block_x ?_
          refine TQ.then_n ?_
          refine T.seq ?_
          refine T.region ?_
          refine TL.move hF rfl rfl ?_
          refine TL.len hF rfl rfl ?_
          have hall : ws.all isW = true := by rw [hs, List.drop_of_length_le (by omega)]; rfl
          have hwn : ws.length ≤ 40 := by have := rk_le l l.length; omega
          refine TL.makeSlice hF rfl rfl rfl (by omega) (by omega) rfl (fun b47 => ?_)
          refine TL.assign hF rfl rfl ?_
          refine TL.nil ?_
          refine TQ.then_n ?_
          refine T.seq ?_
          refine T.region ?_
          refine TL.move hF rfl rfl ?_
          refine TL.move hF rfl rfl ?_
          refine TL.copy hF 0 (cs := List.replicate ws.length (.int .i64 0)) (e' := 3) (k := ws.length) (ints ws) (ints ws) rfl rfl rfl (by simp) hw.ro (by simp) (ints1 _) (by simp) (by simp) rfl ?_
          refine TL.nil ?_
          refine TQ.then_n ?_
          refine T.seq ?_
          refine T.region ?_
          refine TL.move hF rfl rfl ?_
          refine TL.len hF rfl rfl ?_
          refine TL.makeSlice hF rfl rfl rfl (by omega) (by omega) rfl (fun b53 => ?_)
          rw [intC_zero]
          refine TL.alloc hF rfl (fun b12 => ?_)
          first | refine TL.storeI hF 0 rfl rfl rfl rfl (by first | decide | simp) ?_ | refine TL.storeI hF 1 rfl rfl rfl rfl (by first | decide | simp) ?_ | refine TL.storeI hF 2 rfl rfl rfl rfl (by first | decide | simp) ?_ | refine TL.storeI hF 3 rfl rfl rfl rfl (by first | decide | simp) ?_ | refine TL.storeI hF 4 rfl rfl rfl rfl (by first | decide | simp) ?_ | refine TL.storeI hF 5 rfl rfl rfl rfl (by first | decide | simp) ?_
          refine TL.nil ?_
          refine TQ.then_n ?_
          refine T.seq ?_
          refine T.seq ?_
          refine T.region ?_
          refine TL.move hF rfl rfl ?_
          refine TL.len hF rfl rfl ?_
          refine TL.move hF rfl rfl ?_
          refine TL.nil ?_
          refine TQ.then_n ?_
          refine T.block ?_
          refine T.loop (ι := Nat × Option Addr) (fun i => i.1 ≤ l.length ∧ ∀ η', [(b47, .cells (ints ws).toArray 3 (0, 0))] ∈ η' → Row S w0 η' i.2 (ints (ws.drop (rk l i.1)))) (fun i => [(4, .slice none 0 0), (5, ptr b5), (12, ptr b12), (54, .slice a l.length c), (55, .int .i64 (l.length : Int)), (11, .slice i.2 (ws.length - rk l i.1) (ws.length - rk l i.1)), (56, .int .i64 (i.1 : Int))]) (fun i => [(b12, Obj.cells #[Value.slice (some ⟨b53, 0, none⟩) l.length l.length] 24 (0, 0))] :: iseg b53 l.length (scrF l ws i.1) :: [(b47, .cells (ints ws).toArray 3 (0, 0))] :: [(b5, .cells #[.int .i64 0] 27 (0, 0))] :: η) (fun i => l.length - i.1) (0, some ⟨b47, 0, none⟩) ⟨Nat.zero_le _, fun η' h => by simpa [rk, nIn] using row_own (e := 3) h⟩ ⟨rfl, rfl, rfl, rfl, rfl, rfl, rfl, trivial⟩ rfl ?_
          rintro ⟨k, aL⟩ ⟨hk, hrow⟩
          simp only at hk hrow
          have hrm := rk_mono l (k := k) hk
          have e1 : rk l ((k, aL) : Nat × Option Addr).fst = rk l k := rfl
          refine T.seq ?_
          refine T.region ?_
          refine TL.bin hF rfl rfl rfl rfl ?_
          refine TL.nil ?_
          refine TQ.then_n ?_
          refine T.seq ?_
          first | refine T.cond_d rfl (fun ht57 => ?_) (fun ht57 => ?_) | refine T.cond _ rfl (fun ht57 => ?_) (fun ht57 => ?_)
          · refine T.skip ?_
            refine TQ.then_n ?_
            refine T.seq ?_
            refine T.block ?_
            refine T.seq ?_
            refine T.region ?_
            refine TL.move hF rfl rfl ?_
            refine TL.indexAddr hF rfl rfl (hn.ad (i := k) (by omega)) (by omega) (by omega) rfl ?_
            refine TL.loadA hF (l[k]'(by omega)).cells rfl rfl (hn.ro.atA (i := k) (by omega)) rfl ?_
            refine TL.alloc hF rfl (fun b14 => ?_)
            refine TL.assign hF rfl rfl ?_
            refine TL.storeAI hF (l[k]'(by omega)).cells 0 rfl rfl rfl rfl (ncells1 _) (by simp [Value.cells, ncl]) ?_
            refine TL.nil ?_
            refine TQ.then_n ?_
            refine T.seq ?_
            refine T.seq ?_
            refine T.region ?_
            refine TL.fieldAddr hF rfl rfl ?_
            refine TL.load hF rfl (by first | exact At.own' (i := 0) rfl rfl | exact At.own' (i := 1) rfl rfl | exact At.own' (i := 2) rfl rfl | exact At.own' (i := 3) rfl rfl | exact At.own' (i := 4) rfl rfl | exact At.own' (i := 5) rfl rfl | exact At.own' (i := 6) rfl rfl | exact At.own' (i := 7) rfl rfl | exact At.own' (i := 8) rfl rfl | exact At.own' (i := 9) rfl rfl | exact At.own' (i := 10) rfl rfl | exact At.own' (i := 11) rfl rfl | exact At.own' (i := 12) rfl rfl) rfl ?_
            refine TL.bin hF rfl rfl rfl rfl ?_
            refine TL.nil ?_
            refine TQ.then_n ?_
            first | refine T.cond_d rfl (fun ht63 => ?_) (fun ht63 => ?_) | refine T.cond _ rfl (fun ht63 => ?_) (fun ht63 => ?_)
            · refine T.seq ?_
              have hrs := rk_succ (l := l) (k := k) (by omega)
              rw [if_pos ht63] at hrs
              have hrm2 := rk_mono l (k := k + 1) (by omega)
              have hrl : 0 < (ws.drop (rk l k)).length := by simp; omega
              have hrk1 : rk l k < ws.length := by omega
              refine T.drawH 9 mixed ?_
              refine DH.read (i := 0) [(12, _, none)] rfl rfl rfl rfl ⟨⟨rfl, by kernel_rfl⟩, trivial⟩ (fun ext => TL.load hF rfl (by first | exact At.own' (i := 0) rfl rfl | exact At.own' (i := 1) rfl rfl | exact At.own' (i := 2) rfl rfl | exact At.own' (i := 3) rfl rfl | exact At.own' (i := 4) rfl rfl | exact At.own' (i := 5) rfl rfl | exact At.own' (i := 6) rfl rfl | exact At.own' (i := 7) rfl rfl | exact At.own' (i := 8) rfl rfl | exact At.own' (i := 9) rfl rfl | exact At.own' (i := 10) rfl rfl | exact At.own' (i := 11) rfl rfl | exact At.own' (i := 12) rfl rfl) rfl TL.fin) ?_
              refine DH.pure (i := 1) [(13, _, none)] rfl rfl rfl rfl ⟨⟨rfl, by kernel_rfl⟩, trivial⟩ (fun _ ext => TL.move hF rfl rfl TL.fin) ?_
              refine DH.pure (i := 2) [(11, _, none)] rfl rfl rfl rfl ⟨⟨rfl, by kernel_rfl⟩, trivial⟩ (fun _ ext => TL.move hF rfl rfl TL.fin) ?_
              refine DH.pure (i := 3) [(66, _, some 2)] rfl rfl rfl rfl ⟨⟨rfl, rfl, rfl⟩, trivial⟩ (fun _ ext => TL.indexAddr hF rfl rfl (((hrow [[(b47, .cells (ints ws).toArray 3 (0, 0))]] (by simp)).adi (i := 0) (by simp; omega))) (by omega) (by omega) rfl TL.fin) ?_
              refine DH.read (i := 4) [(67, _, some 3)] rfl rfl rfl rfl ⟨⟨rfl, rfl, rfl⟩, trivial⟩ (fun ext => TL.load hF rfl ((hrow _ (by simp)).int (i := 0) hrl) rfl TL.fin) ?_
              refine DH.pure (i := 5) [(11, _, none)] rfl rfl rfl rfl ⟨⟨rfl, by kernel_rfl⟩, trivial⟩ (fun _ ext => TL.move hF rfl rfl TL.fin) ?_
              refine DH.pure (i := 6) [(69, _, some 5)] rfl rfl rfl rfl ⟨⟨rfl, rfl, rfl⟩, trivial⟩ (fun _ ext => TL.slice hF (i := 1) (j := ws.length - rk l k) rfl rfl rfl (by omega) (by omega) rfl TL.fin) ?_
              refine DH.pure (i := 7) [(64, _, some 0), (65, _, some 1)] rfl rfl rfl rfl ⟨⟨rfl, rfl, rfl⟩, ⟨rfl, rfl, rfl⟩, trivial⟩ (fun _ ext => TL.indexAddr hF rfl rfl ⟨_, rfl, rfl⟩ (by omega) (by omega) rfl TL.fin) ?_
              refine DH.k1 (by kernel_rfl) (by kernel_rfl) (by kernel_rfl) (by kernel_rfl) (HBK.mk (h := 8) [] [(71, _, some 7), (68, _, some 4)] rfl rfl rfl ⟨⟨rfl, rfl, rfl⟩, ⟨rfl, rfl, rfl⟩, trivial⟩ (by kernel_rfl) (fun ext => ?_))
              refine TL.storeI hF 2 rfl rfl rfl rfl (by simp [intC_len]; omega) ?_
              refine TL.finKN trivial ?_
              refine DH.done [(71, _), (70, _), (69, _), (68, _), (67, _), (66, _), (65, _), (64, _)] [_] (by kernel_rfl) (by kernel_rfl) (by kernel_rfl) (by kernel_rfl) rfl rfl ?_
              refine TL.assign hF rfl rfl ?_
              refine TL.nil ?_
              refine TQ.then_n ?_
              refine T.exit ?_
              refine TQ.then_x ?_
              refine TQ.block_x ?_
              refine TQ.then_n ?_
              refine T.region ?_
              refine TL.add hF rfl rfl (by omega) (by omega) rfl ?_
              refine TL.move hF rfl rfl ?_
              refine TL.nil ?_
              refine TQ.pop ?_
              have e2 : ws.length - rk l k - 1 = ws.length - rk l (k + 1) := by omega
              have eg : (ws.drop (rk l k))[0] = ws.getD (rk l k) 0 := by rw [List.getElem_drop, List.getD_eq_getElem?_getD, List.getElem?_eq_getElem (by omega)]; rfl
              refine TQ.round (k + 1, if ws.length - rk l k = 1 then aL else aL.map (fun x : Addr => x.add (1 * 1))) ⟨by simp only; omega, fun η' h => ?_⟩ (by simp only; omega) ⟨rfl, rfl, rfl, rfl, rfl, congrArg (fun z => some (Value.slice (if ws.length - rk l k = 1 then aL else aL.map (fun x : Addr => x.add (1 * 1))) z z)) e2, rfl, trivial⟩ (congrArg (fun z : Heap => [(b12, Obj.cells #[Value.slice (some ⟨b53, 0, none⟩) l.length l.length] 24 (0, 0))] :: z) (iseg_set (j := k) (by simp) (fun i _ => ?_)))
              · have hp := (hrow η' h).part (c := ws.length - rk l k) (i := 1) (j := ws.length - rk l k) (sz := 1) (by simp) (by omega) (by omega)
                have e3 : ((ints (ws.drop (rk l k))).drop (1 * 1)).take ((ws.length - rk l k - 1) * 1) = ints (ws.drop (rk l (k + 1))) := by
                  rw [hrs, Nat.mul_one, Nat.mul_one, ints, ints, ← List.map_drop, List.drop_drop, List.take_of_length_le (by simp; omega)]
                rw [e3] at hp; exact hp
              · rw [scrF_succ, nd_eq (by omega), if_pos ht63]
                unfold upd; split
                · rw [eg]
                · rfl
            · refine T.skip ?_
              refine TQ.then_n ?_
              have hop0 := hok.op0 k (by omega)
              have hop3 := hok.op3 k (by omega)
              have hop1 : 1 ≤ (l[k]'(by omega)).op := by omega
              have hfj := hfl _ (List.getElem_mem (l := l) (n := k) (by omega))
              have hfr := hok.fr k (by omega)
              have hfew := hok.few k (by omega)
              have hne : 1 ≤ (l[k]'(by omega)).fr.length := by
                rcases Nat.eq_zero_or_pos (l[k]'(by omega)).fr.length with h | h
                · have := (hok.inp k (by omega)).2 (List.length_eq_zero_iff.1 h); omega
                · exact h
              have hrng := scrF_range hok hall k (by omega)
              refine T.drawH 15 mixed ?_
              refine DH.read (i := 0) [(12, _, none)] rfl rfl rfl rfl ⟨⟨rfl, by kernel_rfl⟩, trivial⟩ (fun ext => TL.load hF rfl (by first | exact At.own' (i := 0) rfl rfl | exact At.own' (i := 1) rfl rfl | exact At.own' (i := 2) rfl rfl | exact At.own' (i := 3) rfl rfl | exact At.own' (i := 4) rfl rfl | exact At.own' (i := 5) rfl rfl | exact At.own' (i := 6) rfl rfl | exact At.own' (i := 7) rfl rfl | exact At.own' (i := 8) rfl rfl | exact At.own' (i := 9) rfl rfl | exact At.own' (i := 10) rfl rfl | exact At.own' (i := 11) rfl rfl | exact At.own' (i := 12) rfl rfl) rfl TL.fin) ?_
              refine DH.pure (i := 1) [(13, _, none)] rfl rfl rfl rfl ⟨⟨rfl, by kernel_rfl⟩, trivial⟩ (fun _ ext => TL.move hF rfl rfl TL.fin) ?_
              refine DH.pure (i := 2) [(14, _, none)] rfl rfl rfl rfl ⟨⟨rfl, by kernel_rfl⟩, trivial⟩ (fun _ ext => TL.fieldAddr hF rfl rfl TL.fin) ?_
              refine DH.read (i := 3) [(74, _, some 2)] rfl rfl rfl rfl ⟨⟨rfl, rfl, rfl⟩, trivial⟩ (fun ext => TL.load hF rfl (by first | exact At.own' (i := 0) rfl rfl | exact At.own' (i := 1) rfl rfl | exact At.own' (i := 2) rfl rfl | exact At.own' (i := 3) rfl rfl | exact At.own' (i := 4) rfl rfl | exact At.own' (i := 5) rfl rfl | exact At.own' (i := 6) rfl rfl | exact At.own' (i := 7) rfl rfl | exact At.own' (i := 8) rfl rfl | exact At.own' (i := 9) rfl rfl | exact At.own' (i := 10) rfl rfl | exact At.own' (i := 11) rfl rfl | exact At.own' (i := 12) rfl rfl) rfl TL.fin) ?_
              refine DH.pure (i := 4) [(75, _, some 3)] rfl rfl rfl rfl ⟨⟨rfl, rfl, rfl⟩, trivial⟩ (fun _ ext => TL.indexAddrA hF rfl rfl (by omega) (by omega) rfl TL.fin) ?_
              refine DH.pure (i := 5) [(76, _, some 4)] rfl rfl rfl rfl ⟨⟨rfl, rfl, rfl⟩, trivial⟩ (fun _ ext => TL.fieldAddr hF rfl rfl TL.fin) ?_
              refine DH.pure (i := 6) [(77, _, some 5)] rfl rfl rfl rfl ⟨⟨rfl, rfl, rfl⟩, trivial⟩ (fun _ ext => TL.load hF rfl (by rw [Nat.zero_add]; exact hg.at (o := (l[k]'(by omega)).op.toNat) (by omega) 2 rfl) rfl TL.fin) ?_
              refine DH.read (i := 7) [(14, _, none)] rfl rfl rfl rfl ⟨⟨rfl, by kernel_rfl⟩, trivial⟩ (fun ext => TL.loadA hF (l[k]'(by omega)).cells rfl rfl (by first | exact own_list (i := 0) (cs := (l[k]'(by omega)).cells) rfl | exact own_list (i := 1) (cs := (l[k]'(by omega)).cells) rfl) rfl TL.fin) ?_
              refine DH.pure (i := 8) [(79, _, some 7)] rfl rfl rfl rfl ⟨⟨rfl, rfl, rfl⟩, trivial⟩ (fun _ ext => TL.build hF rfl (r := .agg (l[k]'(by omega)).cells.toArray) (fun w => by kernel_rfl) rfl TL.fin) ?_
              refine DH.pure (i := 9) [(14, _, none)] rfl rfl rfl rfl ⟨⟨rfl, by kernel_rfl⟩, trivial⟩ (fun _ ext => TL.fieldAddr hF rfl rfl TL.fin) ?_
              refine DH.read (i := 10) [(81, _, some 9)] rfl rfl rfl rfl ⟨⟨rfl, rfl, rfl⟩, trivial⟩ (fun ext => TL.load hF rfl (by first | exact At.own' (i := 0) rfl rfl | exact At.own' (i := 1) rfl rfl | exact At.own' (i := 2) rfl rfl | exact At.own' (i := 3) rfl rfl | exact At.own' (i := 4) rfl rfl | exact At.own' (i := 5) rfl rfl | exact At.own' (i := 6) rfl rfl | exact At.own' (i := 7) rfl rfl | exact At.own' (i := 8) rfl rfl | exact At.own' (i := 9) rfl rfl | exact At.own' (i := 10) rfl rfl | exact At.own' (i := 11) rfl rfl | exact At.own' (i := 12) rfl rfl) rfl TL.fin) ?_
              refine DH.pure (i := 11) [(82, _, some 10)] rfl rfl rfl rfl ⟨⟨rfl, rfl, rfl⟩, trivial⟩ (fun _ ext => TL.len hF rfl rfl TL.fin) ?_
              refine DH.pure (i := 12) [(12, _, none), (14, _, none)] rfl rfl rfl rfl ⟨⟨rfl, by kernel_rfl⟩, ⟨rfl, by kernel_rfl⟩, trivial⟩ (fun _ ext => TL.makeFunc hF rfl rfl rfl TL.fin) ?_
              refine DH.k1 (by kernel_rfl) (by kernel_rfl) (by kernel_rfl) (by kernel_rfl) (HBK.mk (h := 13) [0, 3, 7] [(83, _, some 11), (84, _, some 12)] rfl rfl rfl ⟨⟨rfl, rfl, rfl⟩, ⟨rfl, rfl, rfl⟩, trivial⟩ (by kernel_rfl) (fun ext => ?_))
              refine TL.call hF (listed_fn (g := 42) (cap := #[ptr b12, ptr b14]) (F := fun j => scrF l ws k ((l[k]'(by omega)).fr.getD j 0).toNat) (by omega) (fun i hi s => pickS_fn (x := (l[k]'(by omega))) (n := l.length) (upc _ (upc _ List.mem_cons_self)) (upc _ List.mem_cons_self) (upc _ (upc _ (upc _ List.mem_cons_self))) (hn.frow (i := k) (by omega)) hi hfj (fun f hf => by have := hfr f hf; omega))) rfl rfl ?_
              rintro _ _ ⟨bL, rfl, rfl⟩
              refine TL.finK ⟨⟨_, rfl, _, _, [(12, _, none)], rfl, rfl, ⟨⟨rfl, by kernel_rfl⟩, trivial⟩, fun ext => TL.load hF rfl (by first | exact At.own' (i := 0) rfl rfl | exact At.own' (i := 1) rfl rfl | exact At.own' (i := 2) rfl rfl | exact At.own' (i := 3) rfl rfl | exact At.own' (i := 4) rfl rfl | exact At.own' (i := 5) rfl rfl | exact At.own' (i := 6) rfl rfl | exact At.own' (i := 7) rfl rfl | exact At.own' (i := 8) rfl rfl | exact At.own' (i := 9) rfl rfl | exact At.own' (i := 10) rfl rfl | exact At.own' (i := 11) rfl rfl | exact At.own' (i := 12) rfl rfl) rfl TL.fin⟩, ⟨_, rfl, _, _, [(74, _, some 2)], rfl, rfl, ⟨⟨rfl, rfl, rfl⟩, trivial⟩, fun ext => TL.load hF rfl (by first | exact At.own' (i := 0) rfl rfl | exact At.own' (i := 1) rfl rfl | exact At.own' (i := 2) rfl rfl | exact At.own' (i := 3) rfl rfl | exact At.own' (i := 4) rfl rfl | exact At.own' (i := 5) rfl rfl | exact At.own' (i := 6) rfl rfl | exact At.own' (i := 7) rfl rfl | exact At.own' (i := 8) rfl rfl | exact At.own' (i := 9) rfl rfl | exact At.own' (i := 10) rfl rfl | exact At.own' (i := 11) rfl rfl | exact At.own' (i := 12) rfl rfl) rfl TL.fin⟩, ⟨_, rfl, _, _, [(14, _, none)], rfl, rfl, ⟨⟨rfl, by kernel_rfl⟩, trivial⟩, fun ext => TL.loadA hF (l[k]'(by omega)).cells rfl rfl (by first | exact own_list (i := 0) (cs := (l[k]'(by omega)).cells) rfl | exact own_list (i := 1) (cs := (l[k]'(by omega)).cells) rfl) rfl TL.fin⟩, trivial⟩ ?_
              refine DH.k1 (by kernel_rfl) (by kernel_rfl) (by kernel_rfl) (by kernel_rfl) (HBK.mk (h := 14) [0] [(78, _, some 6), (80, _, some 8), (85, _, some 13)] rfl rfl rfl ⟨⟨rfl, rfl, rfl⟩, ⟨rfl, rfl, rfl⟩, ⟨rfl, rfl, rfl⟩, trivial⟩ (by kernel_rfl) (fun ext => ?_))
              refine TL.call hF (makes_fn' (x := (l[k]'(by omega))) (listed_osl (b := bL) (l[k]'(by omega)).fr (scrF l ws k)) ⟨hop1, hop3⟩ (by simp; omega) (by simp; omega) (fun f hf => by obtain ⟨g, _, rfl⟩ := List.mem_map.1 hf; exact hrng g.toNat) (hok.word k (by omega)) (hok.mod k (by omega))) (by simp [callOf, List.length_map] <;> rfl) rfl ?_
              rintro _ _ ⟨rfl, rfl⟩
              refine TL.finK ⟨⟨_, rfl, _, _, [(12, _, none)], rfl, rfl, ⟨⟨rfl, by kernel_rfl⟩, trivial⟩, fun ext => TL.load hF rfl (by first | exact At.own' (i := 0) rfl rfl | exact At.own' (i := 1) rfl rfl | exact At.own' (i := 2) rfl rfl | exact At.own' (i := 3) rfl rfl | exact At.own' (i := 4) rfl rfl | exact At.own' (i := 5) rfl rfl | exact At.own' (i := 6) rfl rfl | exact At.own' (i := 7) rfl rfl | exact At.own' (i := 8) rfl rfl | exact At.own' (i := 9) rfl rfl | exact At.own' (i := 10) rfl rfl | exact At.own' (i := 11) rfl rfl | exact At.own' (i := 12) rfl rfl) rfl TL.fin⟩, trivial⟩ ?_
              refine DH.done [(86, _), (85, _), (84, _), (83, _), (82, _), (81, _), (80, _), (79, _), (78, _), (77, _), (76, _), (75, _), (74, _), (73, _), (72, _)] [_, _] (by kernel_rfl) (by kernel_rfl) (by kernel_rfl) (by kernel_rfl) rfl rfl ?_
              refine TL.indexAddr hF rfl rfl ⟨_, rfl, rfl⟩ (by omega) (by omega) rfl ?_
              refine TL.storeI hF 2 rfl rfl rfl rfl (by simp [intC_len]; omega) ?_
              refine TL.nil ?_
              refine TQ.block_n ?_
              refine TQ.then_n ?_
              refine T.region ?_
              refine TL.add hF rfl rfl (by omega) (by omega) rfl ?_
              refine TL.move hF rfl rfl ?_
              refine TL.nil ?_
              have e4 : rk l (k + 1) = rk l k := by rw [rk_succ (by omega), if_neg ht63]; rfl
              refine TQ.pop ?_
              refine TQ.round (k + 1, aL) ⟨by simp only; omega, fun η' h => ?_⟩ (by simp only; omega) ⟨rfl, rfl, rfl, rfl, rfl, congrArg (fun z => some (Value.slice aL z z)) (show ws.length - rk l k = ws.length - rk l (k + 1) by omega), rfl, trivial⟩ (congrArg (fun z : Heap => [(b12, Obj.cells #[Value.slice (some ⟨b53, 0, none⟩) l.length l.length] 24 (0, 0))] :: z) (iseg_set (j := k) (by simp) (fun i _ => ?_)))
              · simp only; rw [e4]; exact hrow η' h
              · rw [scrF_succ, nd_eq (by omega), if_neg ht63, comp_L]
                unfold upd; rfl
          · refine T.exit ?_
            refine TQ.then_x ?_
            refine TQ.then_x ?_
            refine TQ.block_x ?_
            refine TQ.then_n ?_
            refine T.seq ?_
            refine T.region ?_
            refine TL.load hF rfl (by first | exact At.own' (i := 0) rfl rfl | exact At.own' (i := 1) rfl rfl | exact At.own' (i := 2) rfl rfl | exact At.own' (i := 3) rfl rfl | exact At.own' (i := 4) rfl rfl | exact At.own' (i := 5) rfl rfl | exact At.own' (i := 6) rfl rfl | exact At.own' (i := 7) rfl rfl | exact At.own' (i := 8) rfl rfl | exact At.own' (i := 9) rfl rfl | exact At.own' (i := 10) rfl rfl | exact At.own' (i := 11) rfl rfl | exact At.own' (i := 12) rfl rfl) rfl ?_
            refine TL.assign hF rfl rfl ?_
            refine TL.storeI hF 3 rfl rfl rfl rfl (by simp) ?_
            refine TL.nil ?_
            refine TQ.then_n ?_
            refine T.ret ?_
            have hkn : k = l.length := by omega
            subst hkn
            have e : scratchS l ws = ((List.range l.length).map (scrF l ws l.length), 0) := by unfold scratchS; rw [if_pos hv, if_pos hA', if_pos hall]
            refine TQ.retL [4] _ stop38 (stopped_nil _) rfl rfl rfl (At.own' (i := 3) rfl rfl) ?_
            rw [e]
            exact ⟨some ⟨b53, 0, none⟩, l.length, [[(b12, Obj.cells #[Value.slice (some ⟨b53, 0, none⟩) l.length l.length] 24 (0, 0))], iseg b53 l.length (scrF l ws l.length), [(b47, .cells (ints ws).toArray 3 (0, 0))], [(b5, .cells #[.int .i64 0] 27 (0, 0))]], by simp [retVal], rfl, ofinal.row (by simp)⟩
      · skip
        refine TQ.then_p ?_
        have hkn : k = l.length := by omega
        subst hkn
        have hrn : rk l l.length = nIn l := by unfold rk; rw [List.take_length]
        refine TQ.panL [4] [.slice none 0 0] stop38 (stopped_err _) rfl rfl rfl (At.own' (i := 0) rfl rfl) ?_
        have e : scratchS l ws = ([], 2) := by unfold scratchS; rw [if_pos hv, if_neg (by have := of_decide_eq_false hA; omega)]
        rw [e]
        exact ⟨none, 0, [[(b5, .cells #[.int .i64 2] 27 (0, 0))]], rfl, rfl, Row.none⟩
  · rintro _ _ ⟨hv, rfl, rfl⟩
    refine TQ.then_p ?_
    refine TQ.panL [4] [.slice none 0 0] stop38 (stopped_err _) rfl rfl rfl (At.own' (i := 0) rfl rfl) ?_
    have e : scratchS l ws = ([], 1) := by unfold scratchS; rw [if_neg (by simp [hv])]
    rw [e]
    exact ⟨none, 0, [[(b5, .cells #[.int .i64 1] 27 (0, 0))]], rfl, rfl, Row.none⟩
end Go.Proofs.YtefkmiomldhmjaaDoor
/- What instants and scripts are refused. -/
namespace Go.Proofs.YtefkmiomldhmjaaDoor
open Go.Sl
variable {S : Nat → Prop} {w0 : World} {η : Heap}
def restE (l : List NodeD) (all : List InstD) (pick : List Int) : Int := if all.length ≤ 30 ∧ pick.length ≤ 200 then if (pick.all fun p => decide (0 ≤ p) && decide (p ≤ 1000000)) = true then instsE l all else 2 else 3
theorem checkS_rest {l : List NodeD} (hv : valid l = true) (all : List InstD) (pick : List Int) : checkS l all pick = restE l all pick := by unfold checkS restE; rw [if_pos hv]
theorem instsE_drop {l : List NodeD} {all : List InstD} {k : Nat} (hk : k < all.length) : instsE l (all.drop k) = if instE l all[k] = 0 then instsE l (all.drop (k + 1)) else instE l all[k] := by rw [drop_step hk, instsE]
theorem setsOk_drop {l : List NodeD} {ss : List SetD} {k : Nat} (hk : k < ss.length) : setsOk l (ss.drop k) = ((inN ss[k].node l.length && decide ((nd l ss[k].node.toNat).op = 0) && isW ss[k].word) && setsOk l (ss.drop (k + 1))) := by rw [drop_step hk]; rfl
theorem asksOk_drop {l : List NodeD} {ss : List Int} {k : Nat} (hk : k < ss.length) : asksOk l (ss.drop k) = (inN ss[k] l.length && asksOk l (ss.drop (k + 1))) := by rw [drop_step hk]; rfl
theorem setsOk_end {l : List NodeD} {ss : List SetD} {k : Nat} (hk : ss.length ≤ k) : setsOk l (ss.drop k) = true := by rw [List.drop_of_length_le hk]; rfl
theorem asksOk_end {l : List NodeD} {ss : List Int} {k : Nat} (hk : ss.length ≤ k) : asksOk l (ss.drop k) = true := by rw [List.drop_of_length_le hk]; rfl
/-- What an engine's check, and what looks at it, uses of it. -/
structure Eng (η : Heap) (gb : Nat) (E : Array Value) (na : Option Addr) (l : List NodeD) (nc : Nat) (sa : Option Addr) (pick : List Int) (sc : Nat) : Prop where
  mem : [(gb, Obj.cells E 88 (0, 0))] ∈ η
  nodes : E[0]? = some (.slice na l.length nc)
  script : E[1]? = some (.slice sa pick.length sc)
theorem Eng.up {η' : Heap} {gb : Nat} {E : Array Value} {na : Option Addr} {l : List NodeD} {nc : Nat} {sa : Option Addr} {pick : List Int} {sc : Nat} (h : Eng η gb E na l nc sa pick sc) (hs : ∀ s ∈ η, s ∈ η') : Eng η' gb E na l nc sa pick sc := ⟨hs _ h.mem, h.nodes, h.script⟩

set_option maxHeartbeats 2000000 in
theorem is_fn {gb : Nat} {E : Array Value} {na : Option Addr} {l : List NodeD} {nc : Nat} {sa : Option Addr} {pick : List Int} {sc : Nat} (hE : Eng η gb E na l nc sa pick sc) (hl : l.length < 2 ^ 63) (n : Int) :
    Rt Tryd.prog 59 [ptr gb, .int .i64 n].toArray S w0 η (fun v η' => v = .bool (inN n l.length) ∧ η' = η) := by
  have hF := open_wide
  refine Rt.of (fn := Tryd.f59) Tryd.func59 rfl rfl ?_
  refine T.seq ?_
  refine T.region ?_
  refine TL.assign hF rfl rfl ?_
  refine TL.nil ?_
  refine TQ.then_n ?_
  refine T.seq ?_
  refine T.region ?_
  refine TL.move hF rfl rfl ?_
  refine TL.move hF rfl rfl ?_
  refine TL.nilCheck hF rfl rfl ?_
  refine TL.fieldAddr hF rfl rfl ?_
  refine TL.load hF rfl (own_mem hE.mem hE.nodes) rfl ?_
  refine TL.len hF rfl rfl ?_
  refine TL.sub hF rfl rfl (by omega) (by omega) rfl ?_
  refine TL.callV hF (within_fn _ _ _) rfl rfl ?_
  refine TL.assign hF rfl rfl ?_
  refine TL.nil ?_
  refine TQ.then_n ?_
  refine T.ret ?_
  refine TQ.rets [4] _ rfl rfl rfl ?_
  exact ⟨by simp only [retVal, inN]; congr 1; rw [Bool.eq_iff_iff]; simp only [Bool.and_eq_true, decide_eq_true_eq]; omega, rfl⟩
set_option maxHeartbeats 2000000 in
theorem input_fn {gb : Nat} {E : Array Value} {na : Option Addr} {l : List NodeD} {nc : Nat} {sa : Option Addr} {pick : List Int} {sc : Nat} (hE : Eng η gb E na l nc sa pick sc) (hn : Nodes S w0 [] na l) {n : Int} (hi : 0 ≤ n ∧ n < l.length) :
    Rt Tryd.prog 60 [ptr gb, .int .i64 n].toArray S w0 η (fun v η' => v = .bool (decide ((nd l n.toNat).op = 0)) ∧ η' = η) := by
  have hF := open_wide
  refine Rt.of (fn := Tryd.f60) Tryd.func60 rfl rfl ?_
  refine T.seq ?_
  refine T.region ?_
  refine TL.assign hF rfl rfl ?_
  refine TL.nil ?_
  refine TQ.then_n ?_
  refine T.seq ?_
  refine T.region ?_
  refine TL.move hF rfl rfl ?_
  refine TL.nilCheck hF rfl rfl ?_
  refine TL.fieldAddr hF rfl rfl ?_
  refine TL.load hF rfl (own_mem hE.mem hE.nodes) rfl ?_
  refine TL.move hF rfl rfl ?_
  refine TL.indexAddr hF rfl rfl (hn.ad (i := n.toNat) (by omega)) (by omega) (by omega) rfl ?_
  refine TL.fieldAddr hF rfl rfl ?_
  refine TL.load hF rfl (hn.ro.at (i := n.toNat) (by omega) 0 rfl) rfl ?_
  refine TL.bin hF rfl rfl rfl rfl ?_
  refine TL.assign hF rfl rfl ?_
  refine TL.nil ?_
  refine TQ.then_n ?_
  refine T.ret ?_
  refine TQ.rets [4] _ rfl rfl rfl ?_
  rw [nd_eq (by omega)]
  exact ⟨rfl, rfl⟩
set_option maxHeartbeats 2000000 in
theorem gcheck_fn {gb : Nat} {E : Array Value} {na : Option Addr} {l : List NodeD} {nc : Nat} {sa : Option Addr} {pick : List Int} {sc : Nat} (hE : Eng η gb E na l nc sa pick sc) {ia : Option Addr} {all : List InstD} {ic : Nat} (hn : Nodes S w0 [] na l) (hi : Insts S w0 [] ia all) (hp : Row S w0 [] sa (ints pick)) (hl : l.length < 2 ^ 63) (hal : all.length < 2 ^ 63) (hpl : pick.length < 2 ^ 63) :
    RtE Tryd.prog 54 [ptr gb, .slice ia all.length ic].toArray S w0 η (fun _ η' => restE l all pick = 0 ∧ η' = η) (fun ch η' => restE l all pick ≠ 0 ∧ ch = stopV (restE l all pick) ∧ η' = η) := by
  have hF := open_wide
  refine RtE.of (fn := Tryd.f54) Tryd.func54 rfl rfl ?_
  refine T.seq ?_
  refine T.region ?_
  refine TL.move hF rfl rfl ?_
  refine TL.len hF rfl rfl ?_
  refine TL.bin hF rfl rfl rfl rfl ?_
  refine TL.move hF rfl rfl ?_
  refine TL.gd (t := 15) rfl (fun g0_15 => ?_) (fun g0_15 => ?_)
  · refine TL.on rfl rfl rfl (decide_eq_true g0_15) ?_
    refine TL.move hF rfl rfl ?_
    refine TL.on rfl rfl rfl (decide_eq_true g0_15) ?_
    refine TL.nilCheck hF rfl rfl ?_
    refine TL.on rfl rfl rfl (decide_eq_true g0_15) ?_
    refine TL.fieldAddr hF rfl rfl ?_
    refine TL.on rfl rfl rfl (decide_eq_true g0_15) ?_
    refine TL.load hF rfl (own_mem hE.mem hE.script) rfl ?_
    refine TL.on rfl rfl rfl (decide_eq_true g0_15) ?_
    refine TL.len hF rfl rfl ?_
    refine TL.on rfl rfl rfl (decide_eq_true g0_15) ?_
    refine TL.bin hF rfl rfl rfl rfl ?_
    refine TL.pickT hF rfl (decide_eq_true g0_15) rfl rfl ?_
    refine TL.callM hF (must_fn _ 3) rfl rfl (fun hA _ => ?_) (fun hA => ?_)
    · skip
      refine TL.nil ?_
      refine TQ.then_n ?_
      refine T.seq ?_
      refine T.seq ?_
      refine T.region ?_
      refine TL.move hF rfl rfl ?_
      refine TL.nilCheck hF rfl rfl ?_
      refine TL.fieldAddr hF rfl rfl ?_
      refine TL.load hF rfl (own_mem hE.mem hE.script) rfl ?_
      refine TL.len hF rfl rfl ?_
      refine TL.move hF rfl rfl ?_
      refine TL.nil ?_
      refine TQ.then_n ?_
      refine T.block ?_
      have hlens : all.length ≤ 30 ∧ pick.length ≤ 200 := ⟨by omega, by have := of_decide_eq_true hA; omega⟩
      refine T.loop (ι := Nat) (fun k => k ≤ pick.length ∧ (pick.all fun p => decide (0 ≤ p) && decide (p ≤ 1000000)) = ((pick.drop k).all fun p => decide (0 ≤ p) && decide (p ≤ 1000000))) (fun k => [(0, ptr gb), (1, .slice ia all.length ic), (27, .slice sa pick.length sc), (28, .int .i64 (pick.length : Int)), (29, .int .i64 (k : Int))]) (fun _ => η) (fun k => pick.length - k) 0 ⟨Nat.zero_le _, by simp⟩ ⟨rfl, rfl, rfl, rfl, rfl, trivial⟩ rfl ?_
      rintro k ⟨hk, hs⟩
      refine T.seq ?_
      refine T.region ?_
      refine TL.bin hF rfl rfl rfl rfl ?_
      refine TL.nil ?_
      refine TQ.then_n ?_
      refine T.seq ?_
      first | refine T.cond_d rfl (fun ht30 => ?_) (fun ht30 => ?_) | refine T.cond _ rfl (fun ht30 => ?_) (fun ht30 => ?_)
      · refine T.skip ?_
        refine TQ.then_n ?_
        refine T.seq ?_
        refine T.block ?_
        refine T.seq ?_
        refine T.region ?_
        refine TL.indexAddr hF rfl rfl (hp.adi (i := k) (by simp; omega)) (by omega) (by omega) rfl ?_
        refine TL.load hF rfl (hp.ro.int (i := k) (by omega)) rfl ?_
        refine TL.assign hF rfl rfl ?_
        refine TL.nil ?_
        refine TQ.then_n ?_
        refine T.region ?_
        refine TL.move hF rfl rfl ?_
        refine TL.callV hF (within_fn _ _ _) rfl rfl ?_
        refine TL.callM hF (must_fn _ 2) rfl rfl (fun hB _ => ?_) (fun hB => ?_)
        · skip
          refine TL.nil ?_
          refine TQ.block_n ?_
          refine TQ.then_n ?_
          refine T.region ?_
          refine TL.add hF rfl rfl (by omega) (by omega) rfl ?_
          refine TL.move hF rfl rfl ?_
          refine TL.nil ?_
          refine TQ.round (k + 1) ⟨by omega, by rw [hs, drop_step (by omega), List.all_cons, hB, Bool.true_and]⟩ (by omega) ⟨rfl, rfl, rfl, rfl, rfl, trivial⟩ rfl
        · skip
          refine TQ.block_p ?_
          refine TQ.then_p ?_
          refine TQ.then_p ?_
          refine TQ.block_p ?_
          refine TQ.then_p ?_
          have e : restE l all pick = 2 := by unfold restE; rw [if_pos hlens, if_neg (by rw [hs, drop_step (by omega), List.all_cons, hB]; simp)]
          exact TQ.panicE ⟨by rw [e]; decide, by rw [e], rfl⟩
      · refine T.exit ?_
        refine TQ.then_x ?_
        refine TQ.then_x ?_
        refine TQ.block_x ?_
        refine TQ.then_n ?_
        refine T.seq ?_
        refine T.region ?_
        refine TL.move hF rfl rfl ?_
        refine TL.len hF rfl rfl ?_
        refine TL.move hF rfl rfl ?_
        refine TL.nil ?_
        refine TQ.then_n ?_
        refine T.block ?_
        have hall : (pick.all fun p => decide (0 ≤ p) && decide (p ≤ 1000000)) = true := by rw [hs, List.drop_of_length_le (by omega)]; rfl
        have hrest : restE l all pick = instsE l all := by unfold restE; rw [if_pos hlens, if_pos hall]
        refine T.loop (ι := Nat) (fun k => k ≤ all.length ∧ instsE l all = instsE l (all.drop k)) (fun k => [(0, ptr gb), (37, .slice ia all.length ic), (38, .int .i64 (all.length : Int)), (39, .int .i64 (k : Int))]) (fun _ => η) (fun k => all.length - k) 0 ⟨Nat.zero_le _, by simp⟩ ⟨rfl, rfl, rfl, rfl, trivial⟩ rfl ?_
        rintro k ⟨hk, hs1⟩
        refine T.seq ?_
        refine T.region ?_
        refine TL.bin hF rfl rfl rfl rfl ?_
        refine TL.nil ?_
        refine TQ.then_n ?_
        refine T.seq ?_
        first | refine T.cond_d rfl (fun ht40 => ?_) (fun ht40 => ?_) | refine T.cond _ rfl (fun ht40 => ?_) (fun ht40 => ?_)
        · refine T.skip ?_
          refine TQ.then_n ?_
          refine T.seq ?_
          refine T.block ?_
          refine T.seq ?_
          refine T.region ?_
          refine TL.indexAddr hF rfl rfl (hi.ad (i := k) (by omega)) (by omega) (by omega) rfl ?_
          refine TL.loadA hF (all[k]'(by omega)).cells rfl rfl (hi.ro.atA (i := k) (by omega)) rfl ?_
          refine TL.alloc hF rfl (fun b7 => ?_)
          refine TL.storeAI hF (all[k]'(by omega)).cells 0 rfl rfl rfl rfl (icells1 _) (by simp [Value.cells, icl]) ?_
          refine TL.nil ?_
          refine TQ.then_n ?_
          refine T.seq ?_
          refine T.region ?_
          refine TL.fieldAddr hF rfl rfl ?_
          refine TL.load hF rfl (by first | exact At.own' (i := 0) rfl rfl | exact At.own' (i := 1) rfl rfl | exact At.own' (i := 2) rfl rfl | exact At.own' (i := 3) rfl rfl | exact At.own' (i := 4) rfl rfl | exact At.own' (i := 5) rfl rfl | exact At.own' (i := 6) rfl rfl | exact At.own' (i := 7) rfl rfl | exact At.own' (i := 8) rfl rfl | exact At.own' (i := 9) rfl rfl | exact At.own' (i := 10) rfl rfl | exact At.own' (i := 11) rfl rfl | exact At.own' (i := 12) rfl rfl) rfl ?_
          refine TL.len hF rfl rfl ?_
          refine TL.bin hF rfl rfl rfl rfl ?_
          refine TL.move hF rfl rfl ?_
          refine TL.gd (t := 47) rfl (fun g9_47 => ?_) (fun g9_47 => ?_)
          · refine TL.on rfl rfl rfl (decide_eq_true g9_47) ?_
            refine TL.fieldAddr hF rfl rfl ?_
            refine TL.on rfl rfl rfl (decide_eq_true g9_47) ?_
            refine TL.load hF rfl (by first | exact At.own' (i := 0) rfl rfl | exact At.own' (i := 1) rfl rfl | exact At.own' (i := 2) rfl rfl | exact At.own' (i := 3) rfl rfl | exact At.own' (i := 4) rfl rfl | exact At.own' (i := 5) rfl rfl | exact At.own' (i := 6) rfl rfl | exact At.own' (i := 7) rfl rfl | exact At.own' (i := 8) rfl rfl | exact At.own' (i := 9) rfl rfl | exact At.own' (i := 10) rfl rfl | exact At.own' (i := 11) rfl rfl | exact At.own' (i := 12) rfl rfl) rfl ?_
            refine TL.on rfl rfl rfl (decide_eq_true g9_47) ?_
            refine TL.len hF rfl rfl ?_
            refine TL.on rfl rfl rfl (decide_eq_true g9_47) ?_
            refine TL.bin hF rfl rfl rfl rfl ?_
            refine TL.pickT hF rfl (decide_eq_true g9_47) rfl rfl ?_
            refine TL.callM hF (must_fn _ 3) rfl rfl (fun hC _ => ?_) (fun hC => ?_)
            · skip
              refine TL.nil ?_
              refine TQ.then_n ?_
              refine T.seq ?_
              refine T.seq ?_
              refine T.region ?_
              refine TL.fieldAddr hF rfl rfl ?_
              refine TL.load hF rfl (by first | exact At.own' (i := 0) rfl rfl | exact At.own' (i := 1) rfl rfl | exact At.own' (i := 2) rfl rfl | exact At.own' (i := 3) rfl rfl | exact At.own' (i := 4) rfl rfl | exact At.own' (i := 5) rfl rfl | exact At.own' (i := 6) rfl rfl | exact At.own' (i := 7) rfl rfl | exact At.own' (i := 8) rfl rfl | exact At.own' (i := 9) rfl rfl | exact At.own' (i := 10) rfl rfl | exact At.own' (i := 11) rfl rfl | exact At.own' (i := 12) rfl rfl) rfl ?_
              refine TL.len hF rfl rfl ?_
              refine TL.move hF rfl rfl ?_
              refine TL.nil ?_
              refine TQ.then_n ?_
              refine T.block ?_
              have hl2 : (all[k]'(by omega)).sets.length ≤ 10 ∧ (all[k]'(by omega)).asks.length ≤ 10 := ⟨by omega, by have := of_decide_eq_true hC; omega⟩
              have hinst : instE l (all[k]'(by omega)) = if setsOk l (all[k]'(by omega)).sets && asksOk l (all[k]'(by omega)).asks then 0 else 2 := by unfold instE; rw [if_pos hl2]
              have hrest2 : restE l all pick = if instE l (all[k]'(by omega)) = 0 then instsE l (all.drop (k + 1)) else instE l (all[k]'(by omega)) := by rw [hrest, hs1, instsE_drop (by omega)]
              refine T.loop (ι := Nat) (fun j => j ≤ (all[k]'(by omega)).sets.length ∧ setsOk l (all[k]'(by omega)).sets = setsOk l ((all[k]'(by omega)).sets.drop j)) (fun j => [(0, ptr gb), (37, .slice ia all.length ic), (38, .int .i64 (all.length : Int)), (39, .int .i64 (k : Int)), (7, ptr b7), (55, .slice (all[k]'(by omega)).sa (all[k]'(by omega)).sets.length (all[k]'(by omega)).sc), (56, .int .i64 ((all[k]'(by omega)).sets.length : Int)), (57, .int .i64 (j : Int))]) (fun _ => [(b7, .cells (all[k]'(by omega)).cells.toArray 50 (0, 0))] :: η) (fun j => (all[k]'(by omega)).sets.length - j) 0 ⟨Nat.zero_le _, by simp⟩ ⟨rfl, rfl, rfl, rfl, rfl, rfl, rfl, rfl, trivial⟩ rfl ?_
              rintro j ⟨hj, hjs⟩
              refine T.seq ?_
              refine T.region ?_
              refine TL.bin hF rfl rfl rfl rfl ?_
              refine TL.nil ?_
              refine TQ.then_n ?_
              refine T.seq ?_
              first | refine T.cond_d rfl (fun ht58 => ?_) (fun ht58 => ?_) | refine T.cond _ rfl (fun ht58 => ?_) (fun ht58 => ?_)
              · refine T.skip ?_
                refine TQ.then_n ?_
                refine T.seq ?_
                refine T.block ?_
                refine T.seq ?_
                refine T.region ?_
                refine TL.indexAddr hF rfl rfl ((hi.srow (i := k) (by omega)).tad scl (by decide) (i := j) (by omega)) (by omega) (by omega) rfl ?_
                refine TL.loadA hF ((all[k]'(by omega)).sets[j]'(by omega)).cells rfl rfl ((hi.srow (i := k) (by omega)).ro.tabA scl (i := j) (by omega)) rfl ?_
                refine TL.alloc hF rfl (fun b9 => ?_)
                refine TL.storeAI hF ((all[k]'(by omega)).sets[j]'(by omega)).cells 0 rfl rfl rfl rfl (scells1 _) (by simp [Value.cells, scl]) ?_
                refine TL.nil ?_
                refine TQ.then_n ?_
                have hjl : j < (all[k]'(by omega)).sets.length := by omega
                have hcase : inN ((all[k]'(by omega)).sets[j]'hjl).node l.length = false ∨ (inN ((all[k]'(by omega)).sets[j]'hjl).node l.length = true ∧ decide ((nd l ((all[k]'(by omega)).sets[j]'hjl).node.toNat).op = 0) = false) ∨ (inN ((all[k]'(by omega)).sets[j]'hjl).node l.length = true ∧ decide ((nd l ((all[k]'(by omega)).sets[j]'hjl).node.toNat).op = 0) = true) := by
                  cases inN ((all[k]'(by omega)).sets[j]'hjl).node l.length <;> cases decide ((nd l ((all[k]'(by omega)).sets[j]'hjl).node.toNat).op = 0) <;> simp
                rcases hcase with hin | ⟨hin, hop⟩ | ⟨hin, hop⟩
                · refine T.draw ?_
                  refine DR.stepV [_] rfl [(0, _, none)] rfl rfl ⟨⟨rfl, by kernel_rfl⟩, trivial⟩ (fun ext => TL.move hF rfl rfl TL.fin) ?_
                  refine DR.stepV [_, _] rfl [(9, _, none)] rfl rfl ⟨⟨rfl, by kernel_rfl⟩, trivial⟩ (fun ext => TL.fieldAddr hF rfl rfl TL.fin) ?_
                  refine DR.stepV [_, _, _] rfl [(62, _, some 1)] rfl rfl ⟨⟨rfl, rfl, rfl⟩, trivial⟩ (fun ext => TL.load hF rfl (by first | exact At.own' (i := 0) rfl rfl | exact At.own' (i := 1) rfl rfl | exact At.own' (i := 2) rfl rfl | exact At.own' (i := 3) rfl rfl | exact At.own' (i := 4) rfl rfl | exact At.own' (i := 5) rfl rfl | exact At.own' (i := 6) rfl rfl | exact At.own' (i := 7) rfl rfl | exact At.own' (i := 8) rfl rfl | exact At.own' (i := 9) rfl rfl | exact At.own' (i := 10) rfl rfl | exact At.own' (i := 11) rfl rfl | exact At.own' (i := 12) rfl rfl) rfl TL.fin) ?_
                  refine DR.stepV [_, _, _, _] rfl [(61, _, some 0), (63, _, some 2)] rfl rfl ⟨⟨rfl, rfl, rfl⟩, ⟨rfl, rfl, rfl⟩, trivial⟩ (fun ext => TL.callV hF (is_fn (hE.up (fun _ h => upc _ (upc _ h))) hl _) rfl rfl TL.fin) ?_
                  refine DR.stepV [_, _, _, _, _] rfl [(64, _, some 3)] rfl rfl ⟨⟨rfl, rfl, rfl⟩, trivial⟩ (fun ext => TL.move hF rfl rfl TL.fin) ?_
                  refine DR.stepV [_, _, _, _, _, _] rfl [(0, _, none), (65, _, some 4)] rfl rfl ⟨⟨rfl, by kernel_rfl⟩, ⟨rfl, rfl, rfl⟩, trivial⟩ (fun ext => TL.off hF rfl rfl rfl hin rfl TL.fin) ?_
                  refine DR.stepV [_, _, _, _, _, _, _] rfl [(66, _, some 5), (65, _, some 4)] rfl rfl ⟨⟨rfl, rfl, rfl⟩, ⟨rfl, rfl, rfl⟩, trivial⟩ (fun ext => TL.off hF rfl rfl rfl hin rfl TL.fin) ?_
                  refine DR.stepV [_, _, _, _, _, _, _, _] rfl [(67, _, some 6), (65, _, some 4)] rfl rfl ⟨⟨rfl, rfl, rfl⟩, ⟨rfl, rfl, rfl⟩, trivial⟩ (fun ext => TL.off hF rfl rfl rfl hin rfl TL.fin) ?_
                  refine DR.stepV [_, _, _, _, _, _, _, _, _] rfl [(68, _, some 7), (65, _, some 4)] rfl rfl ⟨⟨rfl, rfl, rfl⟩, ⟨rfl, rfl, rfl⟩, trivial⟩ (fun ext => TL.off hF rfl rfl rfl hin rfl TL.fin) ?_
                  refine DR.stepV [_, _, _, _, _, _, _, _, _, _] rfl [(9, _, none), (65, _, some 4)] rfl rfl ⟨⟨rfl, by kernel_rfl⟩, ⟨rfl, rfl, rfl⟩, trivial⟩ (fun ext => TL.off hF rfl rfl rfl hin rfl TL.fin) ?_
                  refine DR.stepV [_, _, _, _, _, _, _, _, _, _, _] rfl [(70, _, some 9), (65, _, some 4)] rfl rfl ⟨⟨rfl, rfl, rfl⟩, ⟨rfl, rfl, rfl⟩, trivial⟩ (fun ext => TL.off hF rfl rfl rfl hin rfl TL.fin) ?_
                  refine DR.done [(71, _), (70, _), (69, _), (68, _), (67, _), (66, _), (65, _), (64, _), (63, _), (62, _), (61, _)] [_, _, _, _, _, _, _, _, _, _, _] mixed (by kernel_rfl) (by kernel_rfl) (by kernel_rfl) rfl rfl ?_
                  refine TL.off hF rfl rfl rfl hin rfl ?_
                  refine TL.off hF rfl rfl rfl hin rfl ?_
                  refine TL.off hF rfl rfl rfl hin rfl ?_
                  refine TL.off hF rfl rfl rfl hin rfl ?_
                  refine TL.pickF hF rfl hin rfl rfl ?_
                  refine TL.move hF rfl rfl ?_
                  refine TL.off hF rfl rfl rfl rfl rfl ?_
                  refine TL.off hF rfl rfl rfl rfl rfl ?_
                  refine TL.off hF rfl rfl rfl rfl rfl ?_
                  refine TL.pickF hF rfl rfl rfl rfl ?_
                  refine TL.callM hF (must_fn _ 2) rfl rfl (fun hD _ => (by cases hD)) (fun hD => ?_)
                  refine TQ.block_p ?_
                  refine TQ.then_p ?_
                  refine TQ.then_p ?_
                  refine TQ.block_p ?_
                  refine TQ.then_p ?_
                  refine TQ.block_p ?_
                  refine TQ.then_p ?_
                  refine TQ.then_p ?_
                  refine TQ.block_p ?_
                  refine TQ.pop ?_
                  refine TQ.pop ?_
                  have hz : setsOk l (all[k]'(by omega)).sets = false := by rw [hjs, setsOk_drop (by omega), hin]; rfl
                  have hz2 : instE l (all[k]'(by omega)) = 2 := by rw [hinst, hz]; rfl
                  have e : restE l all pick = 2 := by rw [hrest2, hz2]; rfl
                  exact TQ.panicE ⟨by rw [e]; decide, by rw [e], rfl⟩
                · refine T.draw ?_
                  refine DR.stepV [_] rfl [(0, _, none)] rfl rfl ⟨⟨rfl, by kernel_rfl⟩, trivial⟩ (fun ext => TL.move hF rfl rfl TL.fin) ?_
                  refine DR.stepV [_, _] rfl [(9, _, none)] rfl rfl ⟨⟨rfl, by kernel_rfl⟩, trivial⟩ (fun ext => TL.fieldAddr hF rfl rfl TL.fin) ?_
                  refine DR.stepV [_, _, _] rfl [(62, _, some 1)] rfl rfl ⟨⟨rfl, rfl, rfl⟩, trivial⟩ (fun ext => TL.load hF rfl (by first | exact At.own' (i := 0) rfl rfl | exact At.own' (i := 1) rfl rfl | exact At.own' (i := 2) rfl rfl | exact At.own' (i := 3) rfl rfl | exact At.own' (i := 4) rfl rfl | exact At.own' (i := 5) rfl rfl | exact At.own' (i := 6) rfl rfl | exact At.own' (i := 7) rfl rfl | exact At.own' (i := 8) rfl rfl | exact At.own' (i := 9) rfl rfl | exact At.own' (i := 10) rfl rfl | exact At.own' (i := 11) rfl rfl | exact At.own' (i := 12) rfl rfl) rfl TL.fin) ?_
                  refine DR.stepV [_, _, _, _] rfl [(61, _, some 0), (63, _, some 2)] rfl rfl ⟨⟨rfl, rfl, rfl⟩, ⟨rfl, rfl, rfl⟩, trivial⟩ (fun ext => TL.callV hF (is_fn (hE.up (fun _ h => upc _ (upc _ h))) hl _) rfl rfl TL.fin) ?_
                  refine DR.stepV [_, _, _, _, _] rfl [(64, _, some 3)] rfl rfl ⟨⟨rfl, rfl, rfl⟩, trivial⟩ (fun ext => TL.move hF rfl rfl TL.fin) ?_
                  refine DR.stepV [_, _, _, _, _, _] rfl [(0, _, none), (65, _, some 4)] rfl rfl ⟨⟨rfl, by kernel_rfl⟩, ⟨rfl, rfl, rfl⟩, trivial⟩ (fun ext => TL.on rfl rfl rfl hin <| TL.move hF rfl rfl TL.fin) ?_
                  refine DR.stepV [_, _, _, _, _, _, _] rfl [(66, _, some 5), (65, _, some 4)] rfl rfl ⟨⟨rfl, rfl, rfl⟩, ⟨rfl, rfl, rfl⟩, trivial⟩ (fun ext => TL.on rfl rfl rfl hin <| TL.nilCheck hF rfl rfl TL.fin) ?_
                  refine DR.stepV [_, _, _, _, _, _, _, _] rfl [(67, _, some 6), (65, _, some 4)] rfl rfl ⟨⟨rfl, rfl, rfl⟩, ⟨rfl, rfl, rfl⟩, trivial⟩ (fun ext => TL.on rfl rfl rfl hin <| TL.fieldAddr hF rfl rfl TL.fin) ?_
                  refine DR.stepV [_, _, _, _, _, _, _, _, _] rfl [(68, _, some 7), (65, _, some 4)] rfl rfl ⟨⟨rfl, rfl, rfl⟩, ⟨rfl, rfl, rfl⟩, trivial⟩ (fun ext => TL.on rfl rfl rfl hin <| TL.load hF rfl (own_mem (upc _ (upc _ hE.mem)) hE.nodes) rfl TL.fin) ?_
                  refine DR.stepV [_, _, _, _, _, _, _, _, _, _] rfl [(9, _, none), (65, _, some 4)] rfl rfl ⟨⟨rfl, by kernel_rfl⟩, ⟨rfl, rfl, rfl⟩, trivial⟩ (fun ext => TL.on rfl rfl rfl hin <| TL.fieldAddr hF rfl rfl TL.fin) ?_
                  refine DR.stepV [_, _, _, _, _, _, _, _, _, _, _] rfl [(70, _, some 9), (65, _, some 4)] rfl rfl ⟨⟨rfl, rfl, rfl⟩, ⟨rfl, rfl, rfl⟩, trivial⟩ (fun ext => TL.on rfl rfl rfl hin <| TL.load hF rfl (by first | exact At.own' (i := 0) rfl rfl | exact At.own' (i := 1) rfl rfl | exact At.own' (i := 2) rfl rfl | exact At.own' (i := 3) rfl rfl | exact At.own' (i := 4) rfl rfl | exact At.own' (i := 5) rfl rfl | exact At.own' (i := 6) rfl rfl | exact At.own' (i := 7) rfl rfl | exact At.own' (i := 8) rfl rfl | exact At.own' (i := 9) rfl rfl | exact At.own' (i := 10) rfl rfl | exact At.own' (i := 11) rfl rfl | exact At.own' (i := 12) rfl rfl) rfl TL.fin) ?_
                  refine DR.done [(71, _), (70, _), (69, _), (68, _), (67, _), (66, _), (65, _), (64, _), (63, _), (62, _), (61, _)] [_, _, _, _, _, _, _, _, _, _, _] mixed (by kernel_rfl) (by kernel_rfl) (by kernel_rfl) rfl rfl ?_
                  refine TL.on rfl rfl rfl hin ?_
                  refine TL.indexAddr hF rfl rfl (hn.ad (i := ((all[k]'(by omega)).sets[j]'hjl).node.toNat) (by have := inN_iff.1 hin; omega)) (by have := inN_iff.1 hin; omega) (by have := inN_iff.1 hin; omega) rfl ?_
                  refine TL.on rfl rfl rfl hin ?_
                  refine TL.fieldAddr hF rfl rfl ?_
                  refine TL.on rfl rfl rfl hin ?_
                  refine TL.load hF rfl (v := .int .i64 (nd l ((all[k]'(by omega)).sets[j]'hjl).node.toNat).op) (by rw [nd_eq (by have := inN_iff.1 hin; omega)]; exact hn.ro.at (i := ((all[k]'(by omega)).sets[j]'hjl).node.toNat) (by have := inN_iff.1 hin; omega) 0 rfl) rfl ?_
                  refine TL.on rfl rfl rfl hin ?_
                  refine TL.bin hF rfl rfl rfl rfl ?_
                  refine TL.pickT hF rfl hin rfl rfl ?_
                  refine TL.move hF rfl rfl ?_
                  refine TL.off hF rfl rfl rfl hop rfl ?_
                  refine TL.off hF rfl rfl rfl hop rfl ?_
                  refine TL.off hF rfl rfl rfl hop rfl ?_
                  refine TL.pickF hF rfl hop rfl rfl ?_
                  refine TL.callM hF (must_fn _ 2) rfl rfl (fun hD _ => (by cases hD)) (fun hD => ?_)
                  refine TQ.block_p ?_
                  refine TQ.then_p ?_
                  refine TQ.then_p ?_
                  refine TQ.block_p ?_
                  refine TQ.then_p ?_
                  refine TQ.block_p ?_
                  refine TQ.then_p ?_
                  refine TQ.then_p ?_
                  refine TQ.block_p ?_
                  refine TQ.pop ?_
                  refine TQ.pop ?_
                  have hz : setsOk l (all[k]'(by omega)).sets = false := by rw [hjs, setsOk_drop (by omega), hin, hop]; rfl
                  have hz2 : instE l (all[k]'(by omega)) = 2 := by rw [hinst, hz]; rfl
                  have e : restE l all pick = 2 := by rw [hrest2, hz2]; rfl
                  exact TQ.panicE ⟨by rw [e]; decide, by rw [e], rfl⟩
                · refine T.draw ?_
                  refine DR.stepV [_] rfl [(0, _, none)] rfl rfl ⟨⟨rfl, by kernel_rfl⟩, trivial⟩ (fun ext => TL.move hF rfl rfl TL.fin) ?_
                  refine DR.stepV [_, _] rfl [(9, _, none)] rfl rfl ⟨⟨rfl, by kernel_rfl⟩, trivial⟩ (fun ext => TL.fieldAddr hF rfl rfl TL.fin) ?_
                  refine DR.stepV [_, _, _] rfl [(62, _, some 1)] rfl rfl ⟨⟨rfl, rfl, rfl⟩, trivial⟩ (fun ext => TL.load hF rfl (by first | exact At.own' (i := 0) rfl rfl | exact At.own' (i := 1) rfl rfl | exact At.own' (i := 2) rfl rfl | exact At.own' (i := 3) rfl rfl | exact At.own' (i := 4) rfl rfl | exact At.own' (i := 5) rfl rfl | exact At.own' (i := 6) rfl rfl | exact At.own' (i := 7) rfl rfl | exact At.own' (i := 8) rfl rfl | exact At.own' (i := 9) rfl rfl | exact At.own' (i := 10) rfl rfl | exact At.own' (i := 11) rfl rfl | exact At.own' (i := 12) rfl rfl) rfl TL.fin) ?_
                  refine DR.stepV [_, _, _, _] rfl [(61, _, some 0), (63, _, some 2)] rfl rfl ⟨⟨rfl, rfl, rfl⟩, ⟨rfl, rfl, rfl⟩, trivial⟩ (fun ext => TL.callV hF (is_fn (hE.up (fun _ h => upc _ (upc _ h))) hl _) rfl rfl TL.fin) ?_
                  refine DR.stepV [_, _, _, _, _] rfl [(64, _, some 3)] rfl rfl ⟨⟨rfl, rfl, rfl⟩, trivial⟩ (fun ext => TL.move hF rfl rfl TL.fin) ?_
                  refine DR.stepV [_, _, _, _, _, _] rfl [(0, _, none), (65, _, some 4)] rfl rfl ⟨⟨rfl, by kernel_rfl⟩, ⟨rfl, rfl, rfl⟩, trivial⟩ (fun ext => TL.on rfl rfl rfl hin <| TL.move hF rfl rfl TL.fin) ?_
                  refine DR.stepV [_, _, _, _, _, _, _] rfl [(66, _, some 5), (65, _, some 4)] rfl rfl ⟨⟨rfl, rfl, rfl⟩, ⟨rfl, rfl, rfl⟩, trivial⟩ (fun ext => TL.on rfl rfl rfl hin <| TL.nilCheck hF rfl rfl TL.fin) ?_
                  refine DR.stepV [_, _, _, _, _, _, _, _] rfl [(67, _, some 6), (65, _, some 4)] rfl rfl ⟨⟨rfl, rfl, rfl⟩, ⟨rfl, rfl, rfl⟩, trivial⟩ (fun ext => TL.on rfl rfl rfl hin <| TL.fieldAddr hF rfl rfl TL.fin) ?_
                  refine DR.stepV [_, _, _, _, _, _, _, _, _] rfl [(68, _, some 7), (65, _, some 4)] rfl rfl ⟨⟨rfl, rfl, rfl⟩, ⟨rfl, rfl, rfl⟩, trivial⟩ (fun ext => TL.on rfl rfl rfl hin <| TL.load hF rfl (own_mem (upc _ (upc _ hE.mem)) hE.nodes) rfl TL.fin) ?_
                  refine DR.stepV [_, _, _, _, _, _, _, _, _, _] rfl [(9, _, none), (65, _, some 4)] rfl rfl ⟨⟨rfl, by kernel_rfl⟩, ⟨rfl, rfl, rfl⟩, trivial⟩ (fun ext => TL.on rfl rfl rfl hin <| TL.fieldAddr hF rfl rfl TL.fin) ?_
                  refine DR.stepV [_, _, _, _, _, _, _, _, _, _, _] rfl [(70, _, some 9), (65, _, some 4)] rfl rfl ⟨⟨rfl, rfl, rfl⟩, ⟨rfl, rfl, rfl⟩, trivial⟩ (fun ext => TL.on rfl rfl rfl hin <| TL.load hF rfl (by first | exact At.own' (i := 0) rfl rfl | exact At.own' (i := 1) rfl rfl | exact At.own' (i := 2) rfl rfl | exact At.own' (i := 3) rfl rfl | exact At.own' (i := 4) rfl rfl | exact At.own' (i := 5) rfl rfl | exact At.own' (i := 6) rfl rfl | exact At.own' (i := 7) rfl rfl | exact At.own' (i := 8) rfl rfl | exact At.own' (i := 9) rfl rfl | exact At.own' (i := 10) rfl rfl | exact At.own' (i := 11) rfl rfl | exact At.own' (i := 12) rfl rfl) rfl TL.fin) ?_
                  refine DR.done [(71, _), (70, _), (69, _), (68, _), (67, _), (66, _), (65, _), (64, _), (63, _), (62, _), (61, _)] [_, _, _, _, _, _, _, _, _, _, _] mixed (by kernel_rfl) (by kernel_rfl) (by kernel_rfl) rfl rfl ?_
                  refine TL.on rfl rfl rfl hin ?_
                  refine TL.indexAddr hF rfl rfl (hn.ad (i := ((all[k]'(by omega)).sets[j]'hjl).node.toNat) (by have := inN_iff.1 hin; omega)) (by have := inN_iff.1 hin; omega) (by have := inN_iff.1 hin; omega) rfl ?_
                  refine TL.on rfl rfl rfl hin ?_
                  refine TL.fieldAddr hF rfl rfl ?_
                  refine TL.on rfl rfl rfl hin ?_
                  refine TL.load hF rfl (v := .int .i64 (nd l ((all[k]'(by omega)).sets[j]'hjl).node.toNat).op) (by rw [nd_eq (by have := inN_iff.1 hin; omega)]; exact hn.ro.at (i := ((all[k]'(by omega)).sets[j]'hjl).node.toNat) (by have := inN_iff.1 hin; omega) 0 rfl) rfl ?_
                  refine TL.on rfl rfl rfl hin ?_
                  refine TL.bin hF rfl rfl rfl rfl ?_
                  refine TL.pickT hF rfl hin rfl rfl ?_
                  refine TL.move hF rfl rfl ?_
                  refine TL.on rfl rfl rfl hop ?_
                  refine TL.fieldAddr hF rfl rfl ?_
                  refine TL.on rfl rfl rfl hop ?_
                  refine TL.load hF rfl (by first | exact At.own' (i := 0) rfl rfl | exact At.own' (i := 1) rfl rfl | exact At.own' (i := 2) rfl rfl | exact At.own' (i := 3) rfl rfl | exact At.own' (i := 4) rfl rfl | exact At.own' (i := 5) rfl rfl | exact At.own' (i := 6) rfl rfl | exact At.own' (i := 7) rfl rfl | exact At.own' (i := 8) rfl rfl | exact At.own' (i := 9) rfl rfl | exact At.own' (i := 10) rfl rfl | exact At.own' (i := 11) rfl rfl | exact At.own' (i := 12) rfl rfl) rfl ?_
                  refine TL.on rfl rfl rfl hop ?_
                  refine TL.callV hF (within_fn _ _ _) rfl rfl ?_
                  refine TL.pickT hF rfl hop rfl rfl ?_
                  refine TL.callM hF (must_fn _ 2) rfl rfl (fun hD _ => ?_) (fun hD => ?_)
                  · skip
                    refine TL.nil ?_
                    refine TQ.block_n ?_
                    refine TQ.then_n ?_
                    refine T.region ?_
                    refine TL.add hF rfl rfl (by omega) (by omega) rfl ?_
                    refine TL.move hF rfl rfl ?_
                    refine TL.nil ?_
                    refine TQ.pop ?_
                    refine TQ.round (j + 1) ⟨by omega, by rw [hjs, setsOk_drop (by omega), hin, hop, show isW _ = true from hD]; rfl⟩ (by omega) ⟨rfl, rfl, rfl, rfl, rfl, rfl, rfl, rfl, trivial⟩ rfl
                  · skip
                    refine TQ.block_p ?_
                    refine TQ.then_p ?_
                    refine TQ.then_p ?_
                    refine TQ.block_p ?_
                    refine TQ.then_p ?_
                    refine TQ.block_p ?_
                    refine TQ.then_p ?_
                    refine TQ.then_p ?_
                    refine TQ.block_p ?_
                    refine TQ.pop ?_
                    refine TQ.pop ?_
                    have hz : setsOk l (all[k]'(by omega)).sets = false := by rw [hjs, setsOk_drop (by omega), hin, hop, show isW _ = false from hD]; rfl
                    have hz2 : instE l (all[k]'(by omega)) = 2 := by rw [hinst, hz]; rfl
                    have e : restE l all pick = 2 := by rw [hrest2, hz2]; rfl
                    exact TQ.panicE ⟨by rw [e]; decide, by rw [e], rfl⟩
              · refine T.exit ?_
                refine TQ.then_x ?_
                refine TQ.then_x ?_
                refine TQ.block_x ?_
                refine TQ.then_n ?_
                refine T.seq ?_
                refine T.region ?_
                refine TL.fieldAddr hF rfl rfl ?_
                refine TL.load hF rfl (by first | exact At.own' (i := 0) rfl rfl | exact At.own' (i := 1) rfl rfl | exact At.own' (i := 2) rfl rfl | exact At.own' (i := 3) rfl rfl | exact At.own' (i := 4) rfl rfl | exact At.own' (i := 5) rfl rfl | exact At.own' (i := 6) rfl rfl | exact At.own' (i := 7) rfl rfl | exact At.own' (i := 8) rfl rfl | exact At.own' (i := 9) rfl rfl | exact At.own' (i := 10) rfl rfl | exact At.own' (i := 11) rfl rfl | exact At.own' (i := 12) rfl rfl) rfl ?_
                refine TL.len hF rfl rfl ?_
                refine TL.move hF rfl rfl ?_
                refine TL.nil ?_
                refine TQ.then_n ?_
                refine T.block ?_
                have hsets : setsOk l (all[k]'(by omega)).sets = true := by rw [hjs, setsOk_end (by omega)]
                refine T.loop (ι := Nat) (fun j => j ≤ (all[k]'(by omega)).asks.length ∧ asksOk l (all[k]'(by omega)).asks = asksOk l ((all[k]'(by omega)).asks.drop j)) (fun j => [(0, ptr gb), (37, .slice ia all.length ic), (38, .int .i64 (all.length : Int)), (39, .int .i64 (k : Int)), (85, .slice (all[k]'(by omega)).aa (all[k]'(by omega)).asks.length (all[k]'(by omega)).ac), (86, .int .i64 ((all[k]'(by omega)).asks.length : Int)), (87, .int .i64 (j : Int))]) (fun _ => [(b7, .cells (all[k]'(by omega)).cells.toArray 50 (0, 0))] :: η) (fun j => (all[k]'(by omega)).asks.length - j) 0 ⟨Nat.zero_le _, by simp⟩ ⟨rfl, rfl, rfl, rfl, rfl, rfl, rfl, trivial⟩ rfl ?_
                rintro j ⟨hj, hjs⟩
                refine T.seq ?_
                refine T.region ?_
                refine TL.bin hF rfl rfl rfl rfl ?_
                refine TL.nil ?_
                refine TQ.then_n ?_
                refine T.seq ?_
                first | refine T.cond_d rfl (fun ht88 => ?_) (fun ht88 => ?_) | refine T.cond _ rfl (fun ht88 => ?_) (fun ht88 => ?_)
                · refine T.skip ?_
                  refine TQ.then_n ?_
                  refine T.seq ?_
                  refine T.block ?_
                  refine T.seq ?_
                  refine T.region ?_
                  refine TL.indexAddr hF rfl rfl ((hi.arow (i := k) (by omega)).adi (i := j) (by simp; omega)) (by omega) (by omega) rfl ?_
                  refine TL.load hF rfl ((hi.arow (i := k) (by omega)).ro.int (i := j) (by omega)) rfl ?_
                  refine TL.assign hF rfl rfl ?_
                  refine TL.nil ?_
                  refine TQ.then_n ?_
                  refine T.region ?_
                  refine TL.move hF rfl rfl ?_
                  refine TL.move hF rfl rfl ?_
                  refine TL.callV hF (is_fn (hE.up upc) hl _) rfl rfl ?_
                  refine TL.callM hF (must_fn _ 2) rfl rfl (fun hD _ => ?_) (fun hD => ?_)
                  · skip
                    refine TL.nil ?_
                    refine TQ.block_n ?_
                    refine TQ.then_n ?_
                    refine T.region ?_
                    refine TL.add hF rfl rfl (by omega) (by omega) rfl ?_
                    refine TL.move hF rfl rfl ?_
                    refine TL.nil ?_
                    refine TQ.round (j + 1) ⟨by omega, by rw [hjs, asksOk_drop (by omega), hD]; rfl⟩ (by omega) ⟨rfl, rfl, rfl, rfl, rfl, rfl, rfl, trivial⟩ rfl
                  · skip
                    refine TQ.block_p ?_
                    refine TQ.then_p ?_
                    refine TQ.then_p ?_
                    refine TQ.block_p ?_
                    refine TQ.block_p ?_
                    refine TQ.then_p ?_
                    refine TQ.then_p ?_
                    refine TQ.block_p ?_
                    refine TQ.pop ?_
                    have hz : asksOk l (all[k]'(by omega)).asks = false := by rw [hjs, asksOk_drop (by omega), hD]; rfl
                    have hz2 : instE l (all[k]'(by omega)) = 2 := by rw [hinst, hsets, hz]; rfl
                    have e : restE l all pick = 2 := by rw [hrest2, hz2]; rfl
                    exact TQ.panicE ⟨by rw [e]; decide, by rw [e], rfl⟩
                · refine T.exit ?_
                  refine TQ.then_x ?_
                  refine TQ.then_x ?_
                  refine TQ.block_x ?_
                  refine TQ.block_n ?_
                  refine TQ.then_n ?_
                  refine T.region ?_
                  refine TL.add hF rfl rfl (by omega) (by omega) rfl ?_
                  refine TL.move hF rfl rfl ?_
                  refine TL.nil ?_
                  refine TQ.pop ?_
                  have hz : instE l (all[k]'(by omega)) = 0 := by rw [hinst, hsets, hjs, asksOk_end (by omega)]; rfl
                  refine TQ.round (k + 1) ⟨by omega, by rw [hs1, instsE_drop (by omega), if_pos hz]⟩ (by omega) ⟨rfl, rfl, rfl, rfl, trivial⟩ rfl
            · skip
              refine TQ.then_p ?_
              refine TQ.block_p ?_
              refine TQ.then_p ?_
              refine TQ.then_p ?_
              refine TQ.block_p ?_
              refine TQ.pop ?_
              have hx : ¬ ((all[k]'(by omega)).sets.length ≤ 10 ∧ (all[k]'(by omega)).asks.length ≤ 10) := by first | omega | (have := of_decide_eq_false hC; omega)
              have hz2 : instE l (all[k]'(by omega)) = 3 := by unfold instE; rw [if_neg hx]
              have e : restE l all pick = 3 := by rw [hrest, hs1, instsE_drop (by omega), hz2]; rfl
              exact TQ.panicE ⟨by rw [e]; decide, by rw [e], rfl⟩
          · refine TL.off hF rfl rfl rfl (decide_eq_false g9_47) rfl ?_
            refine TL.off hF rfl rfl rfl (decide_eq_false g9_47) rfl ?_
            refine TL.off hF rfl rfl rfl (decide_eq_false g9_47) rfl ?_
            refine TL.off hF rfl rfl rfl (decide_eq_false g9_47) rfl ?_
            refine TL.pickF hF rfl (decide_eq_false g9_47) rfl rfl ?_
            refine TL.callM hF (must_fn _ 3) rfl rfl (fun hC _ => (by cases hC)) (fun hC => ?_)
            refine TQ.then_p ?_
            refine TQ.block_p ?_
            refine TQ.then_p ?_
            refine TQ.then_p ?_
            refine TQ.block_p ?_
            refine TQ.pop ?_
            have hx : ¬ ((all[k]'(by omega)).sets.length ≤ 10 ∧ (all[k]'(by omega)).asks.length ≤ 10) := by first | omega | (have := of_decide_eq_false hC; omega)
            have hz2 : instE l (all[k]'(by omega)) = 3 := by unfold instE; rw [if_neg hx]
            have e : restE l all pick = 3 := by rw [hrest, hs1, instsE_drop (by omega), hz2]; rfl
            exact TQ.panicE ⟨by rw [e]; decide, by rw [e], rfl⟩
        · refine T.exit ?_
          refine TQ.then_x ?_
          refine TQ.then_x ?_
          refine TQ.block_x ?_
          refine TQ.norm ?_
          refine TQ.retsE [] _ rfl rfl rfl ?_
          exact ⟨by rw [hrest, hs1, List.drop_of_length_le (by omega)]; rfl, rfl⟩
    · skip
      refine TQ.then_p ?_
      have hx : ¬ (all.length ≤ 30 ∧ pick.length ≤ 200) := by first | omega | (have := of_decide_eq_false hA; omega)
      have e : restE l all pick = 3 := by unfold restE; rw [if_neg hx]
      exact TQ.panicE ⟨by rw [e]; decide, by rw [e], rfl⟩
  · refine TL.off hF rfl rfl rfl (decide_eq_false g0_15) rfl ?_
    refine TL.off hF rfl rfl rfl (decide_eq_false g0_15) rfl ?_
    refine TL.off hF rfl rfl rfl (decide_eq_false g0_15) rfl ?_
    refine TL.off hF rfl rfl rfl (decide_eq_false g0_15) rfl ?_
    refine TL.off hF rfl rfl rfl (decide_eq_false g0_15) rfl ?_
    refine TL.off hF rfl rfl rfl (decide_eq_false g0_15) rfl ?_
    refine TL.pickF hF rfl (decide_eq_false g0_15) rfl rfl ?_
    refine TL.callM hF (must_fn _ 3) rfl rfl (fun hA _ => (by cases hA)) (fun hA => ?_)
    refine TQ.then_p ?_
    have hx : ¬ (all.length ≤ 30 ∧ pick.length ≤ 200) := by first | omega | (have := of_decide_eq_false hA; omega)
    have e : restE l all pick = 3 := by unfold restE; rw [if_neg hx]
    exact TQ.panicE ⟨by rw [e]; decide, by rw [e], rfl⟩
end Go.Proofs.YtefkmiomldhmjaaDoor
/- What instants and scripts the reference refuses. -/
namespace Go.Proofs.YtefkmiomldhmjaaDoor
open Go.Sl
variable {S : Nat → Prop} {w0 : World} {η : Heap}
set_option maxHeartbeats 2000000 in
theorem Check_ref {a : Option Addr} {l : List NodeD} {c : Nat} {ia : Option Addr} {all : List InstD} {ic : Nat} {sa : Option Addr} {pick : List Int} {sc : Nat} (hn : Nodes S w0 [] a l) (hi : Insts S w0 [] ia all) (hp : Row S w0 [] sa (ints pick)) (hl : l.length < 2 ^ 63) (hfl : ∀ x ∈ l, x.fr.length < 2 ^ 63) (hal : all.length < 2 ^ 63) (hpl : pick.length < 2 ^ 63) :
    Rt Tryd.prog 56 [.slice a l.length c, .slice ia all.length ic, .slice sa pick.length sc].toArray S w0 η (fun v η' => v = .int .i64 (checkS l all pick) ∧ η' = η) := by
  have hF := open_wide
  refine Rt.of (fn := Tryd.f56) Tryd.func56 rfl rfl ?_
  refine T.seq ?_
  refine T.region ?_
  refine TL.assign hF rfl rfl ?_
  refine TL.nil ?_
  refine TQ.then_n ?_
  refine T.seq ?_
  refine T.seq ?_
  refine T.region ?_
  refine TL.move hF rfl rfl ?_
  refine TL.callV hF (Valid_fn hn hl hfl) rfl rfl ?_
  refine TL.not hF rfl rfl ?_
  refine TL.nil ?_
  refine TQ.then_n ?_
  refine T.cond _ rfl (fun hv => ?_) (fun hv => ?_)
  all_goals simp at hv
  · refine T.seq ?_
    refine T.region ?_
    refine TL.assign hF rfl rfl ?_
    refine TL.nil ?_
    refine TQ.then_n ?_
    refine T.ret ?_
    refine TQ.then_r ?_
    refine TQ.rets [6] _ rfl rfl rfl ?_
    have e : checkS l all pick = 1 := by unfold checkS; rw [if_neg (by simp [hv])]
    exact ⟨by rw [e]; rfl, rfl⟩
  · refine T.skip ?_
    refine TQ.then_n ?_
    refine T.seq ?_
    refine T.seq ?_
    refine T.region ?_
    refine TL.move hF rfl rfl ?_
    refine TL.len hF rfl rfl ?_
    refine TL.bin hF rfl rfl rfl rfl ?_
    refine TL.move hF rfl rfl ?_
    refine TL.gd (t := 18) rfl (fun g3_18 => ?_) (fun g3_18 => ?_)
    · refine TL.off hF rfl rfl rfl (decide_eq_true g3_18) rfl ?_
      refine TL.off hF rfl rfl rfl (decide_eq_true g3_18) rfl ?_
      refine TL.off hF rfl rfl rfl (decide_eq_true g3_18) rfl ?_
      refine TL.pickT hF rfl (decide_eq_true g3_18) rfl rfl ?_
      refine TL.nil ?_
      refine TQ.then_n ?_
      refine T.cond_t rfl rfl ?_
      refine T.seq ?_
      refine T.region ?_
      refine TL.assign hF rfl rfl ?_
      refine TL.nil ?_
      refine TQ.then_n ?_
      refine T.ret ?_
      refine TQ.then_r ?_
      refine TQ.rets [6] _ rfl rfl rfl ?_
      have e : checkS l all pick = 3 := by rw [checkS_rest hv]; unfold restE; rw [if_neg (by omega)]
      exact ⟨by rw [e]; rfl, rfl⟩
    · refine TL.on rfl rfl rfl (decide_eq_false g3_18) ?_
      refine TL.move hF rfl rfl ?_
      refine TL.on rfl rfl rfl (decide_eq_false g3_18) ?_
      refine TL.len hF rfl rfl ?_
      refine TL.on rfl rfl rfl (decide_eq_false g3_18) ?_
      refine TL.bin hF rfl rfl rfl rfl ?_
      refine TL.pickF hF rfl (decide_eq_false g3_18) rfl rfl ?_
      refine TL.nil ?_
      refine TQ.then_n ?_
      first | refine T.cond_d rfl (fun ht22 => ?_) (fun ht22 => ?_) | refine T.cond _ rfl (fun ht22 => ?_) (fun ht22 => ?_)
      · refine T.seq ?_
        refine T.region ?_
        refine TL.assign hF rfl rfl ?_
        refine TL.nil ?_
        refine TQ.then_n ?_
        refine T.ret ?_
        refine TQ.then_r ?_
        refine TQ.rets [6] _ rfl rfl rfl ?_
        have e : checkS l all pick = 3 := by rw [checkS_rest hv]; unfold restE; rw [if_neg (by omega)]
        exact ⟨by rw [e]; rfl, rfl⟩
      · refine T.skip ?_
        refine TQ.then_n ?_
        refine T.seq ?_
        refine T.seq ?_
        refine T.region ?_
        refine TL.assign hF rfl rfl ?_
        refine TL.nil ?_
        refine TQ.then_n ?_
        refine T.block ?_
        have hlens : all.length ≤ 30 ∧ pick.length ≤ 200 := ⟨by omega, by omega⟩
        refine T.loop (ι := Nat) (fun k => k ≤ pick.length ∧ (pick.all fun p => decide (0 ≤ p) && decide (p ≤ 1000000)) = ((pick.drop k).all fun p => decide (0 ≤ p) && decide (p ≤ 1000000))) (fun k => [(0, .slice a l.length c), (1, .slice ia all.length ic), (6, .int .i64 0), (2, .slice sa pick.length sc), (7, .int .i64 (k : Int))]) (fun _ => η) (fun k => pick.length - k) 0 ⟨Nat.zero_le _, by simp⟩ ⟨rfl, rfl, rfl, rfl, rfl, trivial⟩ rfl ?_
        rintro k ⟨hk, hs⟩
        refine T.seq ?_
        refine T.seq ?_
        refine T.region ?_
        refine TL.move hF rfl rfl ?_
        refine TL.move hF rfl rfl ?_
        refine TL.len hF rfl rfl ?_
        refine TL.bin hF rfl rfl rfl rfl ?_
        refine TL.nil ?_
        refine TQ.then_n ?_
        first | refine T.cond_d rfl (fun ht26 => ?_) (fun ht26 => ?_) | refine T.cond _ rfl (fun ht26 => ?_) (fun ht26 => ?_)
        · refine T.skip ?_
          refine TQ.then_n ?_
          refine T.seq ?_
          refine T.block ?_
          refine T.seq ?_
          refine T.region ?_
          refine TL.move hF rfl rfl ?_
          refine TL.move hF rfl rfl ?_
          refine TL.indexAddr hF rfl rfl (hp.adi (i := k) (by simp; omega)) (by omega) (by omega) rfl ?_
          refine TL.load hF rfl (hp.ro.int (i := k) (by omega)) rfl ?_
          refine TL.bin hF rfl rfl rfl rfl ?_
          refine TL.move hF rfl rfl ?_
          refine TL.gd (t := 34) rfl (fun g8_34 => ?_) (fun g8_34 => ?_)
          · refine TL.off hF rfl rfl rfl (decide_eq_true g8_34) rfl ?_
            refine TL.off hF rfl rfl rfl (decide_eq_true g8_34) rfl ?_
            refine TL.off hF rfl rfl rfl (decide_eq_true g8_34) rfl ?_
            refine TL.off hF rfl rfl rfl (decide_eq_true g8_34) rfl ?_
            refine TL.off hF rfl rfl rfl (decide_eq_true g8_34) rfl ?_
            refine TL.pickT hF rfl (decide_eq_true g8_34) rfl rfl ?_
            refine TL.nil ?_
            refine TQ.then_n ?_
            refine T.cond_t rfl rfl ?_
            refine T.seq ?_
            refine T.region ?_
            refine TL.assign hF rfl rfl ?_
            refine TL.nil ?_
            refine TQ.then_n ?_
            refine T.ret ?_
            refine TQ.block_r ?_
            refine TQ.then_r ?_
            refine TQ.then_r ?_
            refine TQ.block_r ?_
            refine TQ.then_r ?_
            refine TQ.rets [6] _ rfl rfl rfl ?_
            have e : checkS l all pick = 2 := by rw [checkS_rest hv]; unfold restE; rw [if_pos hlens, if_neg (by rw [hs, drop_step (by omega), List.all_cons, Bool.and_eq_true]; intro h; simp only [Bool.and_eq_true, decide_eq_true_eq] at h; omega)]
            exact ⟨by rw [e]; rfl, rfl⟩
          · refine TL.on rfl rfl rfl (decide_eq_false g8_34) ?_
            refine TL.move hF rfl rfl ?_
            refine TL.on rfl rfl rfl (decide_eq_false g8_34) ?_
            refine TL.move hF rfl rfl ?_
            refine TL.on rfl rfl rfl (decide_eq_false g8_34) ?_
            refine TL.indexAddr hF rfl rfl (hp.adi (i := k) (by simp; omega)) (by omega) (by omega) rfl ?_
            refine TL.on rfl rfl rfl (decide_eq_false g8_34) ?_
            refine TL.load hF rfl (hp.ro.int (i := k) (by omega)) rfl ?_
            refine TL.on rfl rfl rfl (decide_eq_false g8_34) ?_
            refine TL.bin hF rfl rfl rfl rfl ?_
            refine TL.pickF hF rfl (decide_eq_false g8_34) rfl rfl ?_
            refine TL.nil ?_
            refine TQ.then_n ?_
            first | refine T.cond_d rfl (fun ht40 => ?_) (fun ht40 => ?_) | refine T.cond _ rfl (fun ht40 => ?_) (fun ht40 => ?_)
            · refine T.seq ?_
              refine T.region ?_
              refine TL.assign hF rfl rfl ?_
              refine TL.nil ?_
              refine TQ.then_n ?_
              refine T.ret ?_
              refine TQ.block_r ?_
              refine TQ.then_r ?_
              refine TQ.then_r ?_
              refine TQ.block_r ?_
              refine TQ.then_r ?_
              refine TQ.rets [6] _ rfl rfl rfl ?_
              have e : checkS l all pick = 2 := by rw [checkS_rest hv]; unfold restE; rw [if_pos hlens, if_neg (by rw [hs, drop_step (by omega), List.all_cons, Bool.and_eq_true]; intro h; simp only [Bool.and_eq_true, decide_eq_true_eq] at h; omega)]
              exact ⟨by rw [e]; rfl, rfl⟩
            · refine T.skip ?_
              refine TQ.block_n ?_
              refine TQ.then_n ?_
              refine T.region ?_
              refine TL.move hF rfl rfl ?_
              refine TL.add hF rfl rfl (by omega) (by omega) rfl ?_
              refine TL.assign hF rfl rfl ?_
              refine TL.nil ?_
              refine TQ.round (k + 1) ⟨by omega, by rw [hs, drop_step (by omega), List.all_cons, decide_eq_true (by omega), decide_eq_true (by omega)]; rfl⟩ (by omega) ⟨rfl, rfl, rfl, rfl, rfl, trivial⟩ rfl
        · refine T.exit ?_
          refine TQ.then_x ?_
          refine TQ.then_x ?_
          refine TQ.block_x ?_
          refine TQ.then_n ?_
          refine T.seq ?_
          refine T.seq ?_
          refine T.region ?_
          refine TL.assign hF rfl rfl ?_
          refine TL.nil ?_
          refine TQ.then_n ?_
          refine T.block ?_
          have hall : (pick.all fun p => decide (0 ≤ p) && decide (p ≤ 1000000)) = true := by rw [hs, List.drop_of_length_le (by omega)]; rfl
          have hrest : checkS l all pick = instsE l all := by rw [checkS_rest hv]; unfold restE; rw [if_pos hlens, if_pos hall]
          refine T.loop (ι := Nat) (fun k => k ≤ all.length ∧ instsE l all = instsE l (all.drop k)) (fun k => [(0, .slice a l.length c), (1, .slice ia all.length ic), (6, .int .i64 0), (8, .int .i64 (k : Int))]) (fun _ => η) (fun k => all.length - k) 0 ⟨Nat.zero_le _, by simp⟩ ⟨rfl, rfl, rfl, rfl, trivial⟩ rfl ?_
          rintro k ⟨hk, hs1⟩
          refine T.seq ?_
          refine T.seq ?_
          refine T.region ?_
          refine TL.move hF rfl rfl ?_
          refine TL.move hF rfl rfl ?_
          refine TL.len hF rfl rfl ?_
          refine TL.bin hF rfl rfl rfl rfl ?_
          refine TL.nil ?_
          refine TQ.then_n ?_
          first | refine T.cond_d rfl (fun ht44 => ?_) (fun ht44 => ?_) | refine T.cond _ rfl (fun ht44 => ?_) (fun ht44 => ?_)
          · refine T.skip ?_
            refine TQ.then_n ?_
            refine T.seq ?_
            refine T.block ?_
            refine T.seq ?_
            refine T.seq ?_
            refine T.region ?_
            refine TL.move hF rfl rfl ?_
            refine TL.move hF rfl rfl ?_
            refine TL.indexAddr hF rfl rfl (hi.ad (i := k) (by omega)) (by omega) (by omega) rfl ?_
            refine TL.fieldAddr hF rfl rfl ?_
            refine TL.load hF rfl (hi.ro.at (i := k) (by omega) 0 rfl) rfl ?_
            refine TL.len hF rfl rfl ?_
            refine TL.bin hF rfl rfl rfl rfl ?_
            refine TL.move hF rfl rfl ?_
            refine TL.gd (t := 54) rfl (fun g13_54 => ?_) (fun g13_54 => ?_)
            · refine TL.off hF rfl rfl rfl (decide_eq_true g13_54) rfl ?_
              refine TL.off hF rfl rfl rfl (decide_eq_true g13_54) rfl ?_
              refine TL.off hF rfl rfl rfl (decide_eq_true g13_54) rfl ?_
              refine TL.off hF rfl rfl rfl (decide_eq_true g13_54) rfl ?_
              refine TL.off hF rfl rfl rfl (decide_eq_true g13_54) rfl ?_
              refine TL.off hF rfl rfl rfl (decide_eq_true g13_54) rfl ?_
              refine TL.off hF rfl rfl rfl (decide_eq_true g13_54) rfl ?_
              refine TL.pickT hF rfl (decide_eq_true g13_54) rfl rfl ?_
              refine TL.nil ?_
              refine TQ.then_n ?_
              refine T.cond_t rfl rfl ?_
              refine T.seq ?_
              refine T.region ?_
              refine TL.assign hF rfl rfl ?_
              refine TL.nil ?_
              refine TQ.then_n ?_
              refine T.ret ?_
              refine TQ.then_r ?_
              refine TQ.block_r ?_
              refine TQ.then_r ?_
              refine TQ.then_r ?_
              refine TQ.block_r ?_
              refine TQ.then_r ?_
              refine TQ.rets [6] _ rfl rfl rfl ?_
              have hz2 : instE l (all[k]'(by omega)) = 3 := by unfold instE; rw [if_neg (by omega)]
              have e : checkS l all pick = 3 := by rw [hrest, hs1, instsE_drop (by omega), hz2]; rfl
              exact ⟨by rw [e]; rfl, rfl⟩
            · refine TL.on rfl rfl rfl (decide_eq_false g13_54) ?_
              refine TL.move hF rfl rfl ?_
              refine TL.on rfl rfl rfl (decide_eq_false g13_54) ?_
              refine TL.move hF rfl rfl ?_
              refine TL.on rfl rfl rfl (decide_eq_false g13_54) ?_
              refine TL.indexAddr hF rfl rfl (hi.ad (i := k) (by omega)) (by omega) (by omega) rfl ?_
              refine TL.on rfl rfl rfl (decide_eq_false g13_54) ?_
              refine TL.fieldAddr hF rfl rfl ?_
              refine TL.on rfl rfl rfl (decide_eq_false g13_54) ?_
              refine TL.load hF rfl (hi.ro.at (i := k) (by omega) 1 rfl) rfl ?_
              refine TL.on rfl rfl rfl (decide_eq_false g13_54) ?_
              refine TL.len hF rfl rfl ?_
              refine TL.on rfl rfl rfl (decide_eq_false g13_54) ?_
              refine TL.bin hF rfl rfl rfl rfl ?_
              refine TL.pickF hF rfl (decide_eq_false g13_54) rfl rfl ?_
              refine TL.nil ?_
              refine TQ.then_n ?_
              first | refine T.cond_d rfl (fun ht62 => ?_) (fun ht62 => ?_) | refine T.cond _ rfl (fun ht62 => ?_) (fun ht62 => ?_)
              · refine T.seq ?_
                refine T.region ?_
                refine TL.assign hF rfl rfl ?_
                refine TL.nil ?_
                refine TQ.then_n ?_
                refine T.ret ?_
                refine TQ.then_r ?_
                refine TQ.block_r ?_
                refine TQ.then_r ?_
                refine TQ.then_r ?_
                refine TQ.block_r ?_
                refine TQ.then_r ?_
                refine TQ.rets [6] _ rfl rfl rfl ?_
                have hz2 : instE l (all[k]'(by omega)) = 3 := by unfold instE; rw [if_neg (by omega)]
                have e : checkS l all pick = 3 := by rw [hrest, hs1, instsE_drop (by omega), hz2]; rfl
                exact ⟨by rw [e]; rfl, rfl⟩
              · refine T.skip ?_
                refine TQ.then_n ?_
                refine T.seq ?_
                refine T.seq ?_
                refine T.region ?_
                refine TL.assign hF rfl rfl ?_
                refine TL.nil ?_
                refine TQ.then_n ?_
                refine T.block ?_
                have hl2 : (all[k]'(by omega)).sets.length ≤ 10 ∧ (all[k]'(by omega)).asks.length ≤ 10 := ⟨by omega, by omega⟩
                have hinst : instE l (all[k]'(by omega)) = if setsOk l (all[k]'(by omega)).sets && asksOk l (all[k]'(by omega)).asks then 0 else 2 := by unfold instE; rw [if_pos hl2]
                have hrest2 : checkS l all pick = if instE l (all[k]'(by omega)) = 0 then instsE l (all.drop (k + 1)) else instE l (all[k]'(by omega)) := by rw [hrest, hs1, instsE_drop (by omega)]
                refine T.loop (ι := Nat) (fun j => j ≤ (all[k]'(by omega)).sets.length ∧ setsOk l (all[k]'(by omega)).sets = setsOk l ((all[k]'(by omega)).sets.drop j)) (fun j => [(0, .slice a l.length c), (1, .slice ia all.length ic), (6, .int .i64 0), (8, .int .i64 (k : Int)), (9, .int .i64 (j : Int))]) (fun _ => η) (fun j => (all[k]'(by omega)).sets.length - j) 0 ⟨Nat.zero_le _, by simp⟩ ⟨rfl, rfl, rfl, rfl, rfl, trivial⟩ rfl ?_
                rintro j ⟨hj, hjs⟩
                refine T.seq ?_
                refine T.seq ?_
                refine T.region ?_
                refine TL.move hF rfl rfl ?_
                refine TL.move hF rfl rfl ?_
                refine TL.move hF rfl rfl ?_
                refine TL.indexAddr hF rfl rfl (hi.ad (i := k) (by omega)) (by omega) (by omega) rfl ?_
                refine TL.fieldAddr hF rfl rfl ?_
                refine TL.load hF rfl (hi.ro.at (i := k) (by omega) 0 rfl) rfl ?_
                refine TL.len hF rfl rfl ?_
                refine TL.bin hF rfl rfl rfl rfl ?_
                refine TL.nil ?_
                refine TQ.then_n ?_
                first | refine T.cond_d rfl (fun ht70 => ?_) (fun ht70 => ?_) | refine T.cond _ rfl (fun ht70 => ?_) (fun ht70 => ?_)
                · refine T.skip ?_
                  refine TQ.then_n ?_
                  refine T.seq ?_
                  refine T.block ?_
                  refine T.seq ?_
                  refine T.region ?_
                  refine TL.move hF rfl rfl ?_
                  refine TL.move hF rfl rfl ?_
                  refine TL.indexAddr hF rfl rfl (hi.ad (i := k) (by omega)) (by omega) (by omega) rfl ?_
                  refine TL.fieldAddr hF rfl rfl ?_
                  refine TL.load hF rfl (hi.ro.at (i := k) (by omega) 0 rfl) rfl ?_
                  refine TL.move hF rfl rfl ?_
                  refine TL.indexAddr hF rfl rfl ((hi.srow (i := k) (by omega)).tad scl (by decide) (i := j) (by omega)) (by omega) (by omega) rfl ?_
                  refine TL.loadA hF (all[k].sets[j]'(by omega)).cells rfl rfl ((hi.srow (i := k) (by omega)).ro.tabA scl (i := j) (by omega)) rfl ?_
                  refine TL.alloc hF rfl (fun b10 => ?_)
                  refine TL.storeAI hF (all[k].sets[j]'(by omega)).cells 0 rfl rfl rfl rfl (scells1 _) (by simp [Value.cells, scl]) ?_
                  refine TL.nil ?_
                  refine TQ.then_n ?_
                  refine T.seq ?_
                  refine T.region ?_
                  refine TL.fieldAddr hF rfl rfl ?_
                  refine TL.load hF rfl (by first | exact At.own' (i := 0) rfl rfl | exact At.own' (i := 1) rfl rfl | exact At.own' (i := 2) rfl rfl | exact At.own' (i := 3) rfl rfl | exact At.own' (i := 4) rfl rfl | exact At.own' (i := 5) rfl rfl | exact At.own' (i := 6) rfl rfl | exact At.own' (i := 7) rfl rfl | exact At.own' (i := 8) rfl rfl | exact At.own' (i := 9) rfl rfl | exact At.own' (i := 10) rfl rfl | exact At.own' (i := 11) rfl rfl | exact At.own' (i := 12) rfl rfl) rfl ?_
                  refine TL.bin hF rfl rfl rfl rfl ?_
                  refine TL.move hF rfl rfl ?_
                  refine TL.gd (t := 84) rfl (fun g19_84 => ?_) (fun g19_84 => ?_)
                  · refine TL.off hF rfl rfl rfl (decide_eq_true g19_84) rfl ?_
                    refine TL.off hF rfl rfl rfl (decide_eq_true g19_84) rfl ?_
                    refine TL.off hF rfl rfl rfl (decide_eq_true g19_84) rfl ?_
                    refine TL.off hF rfl rfl rfl (decide_eq_true g19_84) rfl ?_
                    refine TL.off hF rfl rfl rfl (decide_eq_true g19_84) rfl ?_
                    refine TL.pickT hF rfl (decide_eq_true g19_84) rfl rfl ?_
                    refine TL.move hF rfl rfl ?_
                    refine TL.off hF rfl rfl rfl rfl rfl ?_
                    refine TL.off hF rfl rfl rfl rfl rfl ?_
                    refine TL.off hF rfl rfl rfl rfl rfl ?_
                    refine TL.off hF rfl rfl rfl rfl rfl ?_
                    refine TL.off hF rfl rfl rfl rfl rfl ?_
                    refine TL.off hF rfl rfl rfl rfl rfl ?_
                    refine TL.off hF rfl rfl rfl rfl rfl ?_
                    refine TL.pickT hF rfl rfl rfl rfl ?_
                    refine TL.move hF rfl rfl ?_
                    refine TL.off hF rfl rfl rfl rfl rfl ?_
                    refine TL.off hF rfl rfl rfl rfl rfl ?_
                    refine TL.off hF rfl rfl rfl rfl rfl ?_
                    refine TL.off hF rfl rfl rfl rfl rfl ?_
                    refine TL.pickT hF rfl rfl rfl rfl ?_
                    refine TL.nil ?_
                    refine TQ.then_n ?_
                    refine T.cond_t rfl rfl ?_
                    refine T.seq ?_
                    refine T.region ?_
                    refine TL.assign hF rfl rfl ?_
                    refine TL.nil ?_
                    refine TQ.then_n ?_
                    refine T.ret ?_
                    refine TQ.block_r ?_
                    refine TQ.then_r ?_
                    refine TQ.then_r ?_
                    refine TQ.block_r ?_
                    refine TQ.then_r ?_
                    refine TQ.block_r ?_
                    refine TQ.then_r ?_
                    refine TQ.then_r ?_
                    refine TQ.block_r ?_
                    refine TQ.then_r ?_
                    refine TQ.pop ?_
                    refine TQ.rets [6] _ rfl rfl rfl ?_
                    have hin : inN (all[k].sets[j]'(by omega)).node l.length = false := by rw [Bool.eq_false_iff]; intro h; have := inN_iff.1 h; omega
                    have hz : setsOk l (all[k]'(by omega)).sets = false := by rw [hjs, setsOk_drop (by omega)]; rw [hin]; rfl
                    have hz2 : instE l (all[k]'(by omega)) = 2 := by rw [hinst, hz]; rfl
                    have e : checkS l all pick = 2 := by rw [hrest2, hz2]; rfl
                    exact ⟨by rw [e]; rfl, rfl⟩
                  · refine TL.on rfl rfl rfl (decide_eq_false g19_84) ?_
                    refine TL.fieldAddr hF rfl rfl ?_
                    refine TL.on rfl rfl rfl (decide_eq_false g19_84) ?_
                    refine TL.load hF rfl (by first | exact At.own' (i := 0) rfl rfl | exact At.own' (i := 1) rfl rfl | exact At.own' (i := 2) rfl rfl | exact At.own' (i := 3) rfl rfl | exact At.own' (i := 4) rfl rfl | exact At.own' (i := 5) rfl rfl | exact At.own' (i := 6) rfl rfl | exact At.own' (i := 7) rfl rfl | exact At.own' (i := 8) rfl rfl | exact At.own' (i := 9) rfl rfl | exact At.own' (i := 10) rfl rfl | exact At.own' (i := 11) rfl rfl | exact At.own' (i := 12) rfl rfl) rfl ?_
                    refine TL.on rfl rfl rfl (decide_eq_false g19_84) ?_
                    refine TL.move hF rfl rfl ?_
                    refine TL.on rfl rfl rfl (decide_eq_false g19_84) ?_
                    refine TL.len hF rfl rfl ?_
                    refine TL.on rfl rfl rfl (decide_eq_false g19_84) ?_
                    refine TL.bin hF rfl rfl rfl rfl ?_
                    refine TL.pickF hF rfl (decide_eq_false g19_84) rfl rfl ?_
                    refine TL.move hF rfl rfl ?_
                    refine TL.gd (t := 91) rfl (fun g19_91 => ?_) (fun g19_91 => ?_)
                    · refine TL.off hF rfl rfl rfl (decide_eq_true g19_91) rfl ?_
                      refine TL.off hF rfl rfl rfl (decide_eq_true g19_91) rfl ?_
                      refine TL.off hF rfl rfl rfl (decide_eq_true g19_91) rfl ?_
                      refine TL.off hF rfl rfl rfl (decide_eq_true g19_91) rfl ?_
                      refine TL.off hF rfl rfl rfl (decide_eq_true g19_91) rfl ?_
                      refine TL.off hF rfl rfl rfl (decide_eq_true g19_91) rfl ?_
                      refine TL.off hF rfl rfl rfl (decide_eq_true g19_91) rfl ?_
                      refine TL.pickT hF rfl (decide_eq_true g19_91) rfl rfl ?_
                      refine TL.move hF rfl rfl ?_
                      refine TL.off hF rfl rfl rfl rfl rfl ?_
                      refine TL.off hF rfl rfl rfl rfl rfl ?_
                      refine TL.off hF rfl rfl rfl rfl rfl ?_
                      refine TL.off hF rfl rfl rfl rfl rfl ?_
                      refine TL.pickT hF rfl rfl rfl rfl ?_
                      refine TL.nil ?_
                      refine TQ.then_n ?_
                      refine T.cond_t rfl rfl ?_
                      refine T.seq ?_
                      refine T.region ?_
                      refine TL.assign hF rfl rfl ?_
                      refine TL.nil ?_
                      refine TQ.then_n ?_
                      refine T.ret ?_
                      refine TQ.block_r ?_
                      refine TQ.then_r ?_
                      refine TQ.then_r ?_
                      refine TQ.block_r ?_
                      refine TQ.then_r ?_
                      refine TQ.block_r ?_
                      refine TQ.then_r ?_
                      refine TQ.then_r ?_
                      refine TQ.block_r ?_
                      refine TQ.then_r ?_
                      refine TQ.pop ?_
                      refine TQ.rets [6] _ rfl rfl rfl ?_
                      have hin : inN (all[k].sets[j]'(by omega)).node l.length = false := by rw [Bool.eq_false_iff]; intro h; have := inN_iff.1 h; omega
                      have hz : setsOk l (all[k]'(by omega)).sets = false := by rw [hjs, setsOk_drop (by omega)]; rw [hin]; rfl
                      have hz2 : instE l (all[k]'(by omega)) = 2 := by rw [hinst, hz]; rfl
                      have e : checkS l all pick = 2 := by rw [hrest2, hz2]; rfl
                      exact ⟨by rw [e]; rfl, rfl⟩
                    · refine TL.on rfl rfl rfl (decide_eq_false g19_91) ?_
                      refine TL.move hF rfl rfl ?_
                      refine TL.on rfl rfl rfl (decide_eq_false g19_91) ?_
                      refine TL.fieldAddr hF rfl rfl ?_
                      refine TL.on rfl rfl rfl (decide_eq_false g19_91) ?_
                      refine TL.load hF rfl (by first | exact At.own' (i := 0) rfl rfl | exact At.own' (i := 1) rfl rfl | exact At.own' (i := 2) rfl rfl | exact At.own' (i := 3) rfl rfl | exact At.own' (i := 4) rfl rfl | exact At.own' (i := 5) rfl rfl | exact At.own' (i := 6) rfl rfl | exact At.own' (i := 7) rfl rfl | exact At.own' (i := 8) rfl rfl | exact At.own' (i := 9) rfl rfl | exact At.own' (i := 10) rfl rfl | exact At.own' (i := 11) rfl rfl | exact At.own' (i := 12) rfl rfl) rfl ?_
                      refine TL.on rfl rfl rfl (decide_eq_false g19_91) ?_
                      refine TL.indexAddr hF rfl rfl (hn.ad (i := (all[k].sets[j]'(by omega)).node.toNat) (by omega)) (by omega) (by omega) rfl ?_
                      refine TL.on rfl rfl rfl (decide_eq_false g19_91) ?_
                      refine TL.fieldAddr hF rfl rfl ?_
                      refine TL.on rfl rfl rfl (decide_eq_false g19_91) ?_
                      refine TL.load hF rfl (v := .int .i64 (nd l (all[k].sets[j]'(by omega)).node.toNat).op) (by rw [nd_eq (by omega)]; exact hn.ro.at (i := (all[k].sets[j]'(by omega)).node.toNat) (by omega) 0 rfl) rfl ?_
                      refine TL.on rfl rfl rfl (decide_eq_false g19_91) ?_
                      refine TL.bin hF rfl rfl rfl rfl ?_
                      refine TL.pickF hF rfl (decide_eq_false g19_91) rfl rfl ?_
                      refine TL.move hF rfl rfl ?_
                      refine TL.gd (t := 100) rfl (fun g19_100 => ?_) (fun g19_100 => ?_)
                      · refine TL.off hF rfl rfl rfl (decide_eq_true g19_100) rfl ?_
                        refine TL.off hF rfl rfl rfl (decide_eq_true g19_100) rfl ?_
                        refine TL.off hF rfl rfl rfl (decide_eq_true g19_100) rfl ?_
                        refine TL.off hF rfl rfl rfl (decide_eq_true g19_100) rfl ?_
                        refine TL.pickT hF rfl (decide_eq_true g19_100) rfl rfl ?_
                        refine TL.nil ?_
                        refine TQ.then_n ?_
                        refine T.cond_t rfl rfl ?_
                        refine T.seq ?_
                        refine T.region ?_
                        refine TL.assign hF rfl rfl ?_
                        refine TL.nil ?_
                        refine TQ.then_n ?_
                        refine T.ret ?_
                        refine TQ.block_r ?_
                        refine TQ.then_r ?_
                        refine TQ.then_r ?_
                        refine TQ.block_r ?_
                        refine TQ.then_r ?_
                        refine TQ.block_r ?_
                        refine TQ.then_r ?_
                        refine TQ.then_r ?_
                        refine TQ.block_r ?_
                        refine TQ.then_r ?_
                        refine TQ.pop ?_
                        refine TQ.rets [6] _ rfl rfl rfl ?_
                        have hz : setsOk l (all[k]'(by omega)).sets = false := by rw [hjs, setsOk_drop (by omega)]; rw [decide_eq_false (by omega), Bool.and_false]; rfl
                        have hz2 : instE l (all[k]'(by omega)) = 2 := by rw [hinst, hz]; rfl
                        have e : checkS l all pick = 2 := by rw [hrest2, hz2]; rfl
                        exact ⟨by rw [e]; rfl, rfl⟩
                      · refine TL.on rfl rfl rfl (decide_eq_false g19_100) ?_
                        refine TL.fieldAddr hF rfl rfl ?_
                        refine TL.on rfl rfl rfl (decide_eq_false g19_100) ?_
                        refine TL.load hF rfl (by first | exact At.own' (i := 0) rfl rfl | exact At.own' (i := 1) rfl rfl | exact At.own' (i := 2) rfl rfl | exact At.own' (i := 3) rfl rfl | exact At.own' (i := 4) rfl rfl | exact At.own' (i := 5) rfl rfl | exact At.own' (i := 6) rfl rfl | exact At.own' (i := 7) rfl rfl | exact At.own' (i := 8) rfl rfl | exact At.own' (i := 9) rfl rfl | exact At.own' (i := 10) rfl rfl | exact At.own' (i := 11) rfl rfl | exact At.own' (i := 12) rfl rfl) rfl ?_
                        refine TL.on rfl rfl rfl (decide_eq_false g19_100) ?_
                        refine TL.callV hF (IsWord_fn _) rfl rfl ?_
                        refine TL.on rfl rfl rfl (decide_eq_false g19_100) ?_
                        refine TL.not hF rfl rfl ?_
                        refine TL.pickF hF rfl (decide_eq_false g19_100) rfl rfl ?_
                        refine TL.nil ?_
                        refine TQ.then_n ?_
                        refine T.cond _ rfl (fun hw => ?_) (fun hw => ?_)
                        all_goals simp at hw
                        · refine T.seq ?_
                          refine T.region ?_
                          refine TL.assign hF rfl rfl ?_
                          refine TL.nil ?_
                          refine TQ.then_n ?_
                          refine T.ret ?_
                          refine TQ.block_r ?_
                          refine TQ.then_r ?_
                          refine TQ.then_r ?_
                          refine TQ.block_r ?_
                          refine TQ.then_r ?_
                          refine TQ.block_r ?_
                          refine TQ.then_r ?_
                          refine TQ.then_r ?_
                          refine TQ.block_r ?_
                          refine TQ.then_r ?_
                          refine TQ.pop ?_
                          refine TQ.rets [6] _ rfl rfl rfl ?_
                          have hz : setsOk l (all[k]'(by omega)).sets = false := by rw [hjs, setsOk_drop (by omega)]; rw [hw, Bool.and_false]; rfl
                          have hz2 : instE l (all[k]'(by omega)) = 2 := by rw [hinst, hz]; rfl
                          have e : checkS l all pick = 2 := by rw [hrest2, hz2]; rfl
                          exact ⟨by rw [e]; rfl, rfl⟩
                        · refine T.skip ?_
                          refine TQ.block_n ?_
                          refine TQ.then_n ?_
                          refine T.region ?_
                          refine TL.move hF rfl rfl ?_
                          refine TL.add hF rfl rfl (by omega) (by omega) rfl ?_
                          refine TL.assign hF rfl rfl ?_
                          refine TL.nil ?_
                          refine TQ.pop ?_
                          refine TQ.round (j + 1) ⟨by omega, by rw [hjs, setsOk_drop (by omega), inN_iff.2 (by omega), hw, decide_eq_true (by omega)]; rfl⟩ (by omega) ⟨rfl, rfl, rfl, rfl, rfl, trivial⟩ rfl
                · refine T.exit ?_
                  refine TQ.then_x ?_
                  refine TQ.then_x ?_
                  refine TQ.block_x ?_
                  refine TQ.then_n ?_
                  refine T.seq ?_
                  refine T.region ?_
                  refine TL.assign hF rfl rfl ?_
                  refine TL.nil ?_
                  refine TQ.then_n ?_
                  refine T.block ?_
                  have hsets : setsOk l (all[k]'(by omega)).sets = true := by rw [hjs, setsOk_end (by omega)]
                  refine T.loop (ι := Nat) (fun j => j ≤ (all[k]'(by omega)).asks.length ∧ asksOk l (all[k]'(by omega)).asks = asksOk l ((all[k]'(by omega)).asks.drop j)) (fun j => [(0, .slice a l.length c), (1, .slice ia all.length ic), (6, .int .i64 0), (8, .int .i64 (k : Int)), (11, .int .i64 (j : Int))]) (fun _ => η) (fun j => (all[k]'(by omega)).asks.length - j) 0 ⟨Nat.zero_le _, by simp⟩ ⟨rfl, rfl, rfl, rfl, rfl, trivial⟩ rfl ?_
                  rintro j ⟨hj, hjs⟩
                  refine T.seq ?_
                  refine T.seq ?_
                  refine T.region ?_
                  refine TL.move hF rfl rfl ?_
                  refine TL.move hF rfl rfl ?_
                  refine TL.move hF rfl rfl ?_
                  refine TL.indexAddr hF rfl rfl (hi.ad (i := k) (by omega)) (by omega) (by omega) rfl ?_
                  refine TL.fieldAddr hF rfl rfl ?_
                  refine TL.load hF rfl (hi.ro.at (i := k) (by omega) 1 rfl) rfl ?_
                  refine TL.len hF rfl rfl ?_
                  refine TL.bin hF rfl rfl rfl rfl ?_
                  refine TL.nil ?_
                  refine TQ.then_n ?_
                  first | refine T.cond_d rfl (fun ht113 => ?_) (fun ht113 => ?_) | refine T.cond _ rfl (fun ht113 => ?_) (fun ht113 => ?_)
                  · refine T.skip ?_
                    refine TQ.then_n ?_
                    refine T.seq ?_
                    refine T.block ?_
                    refine T.seq ?_
                    refine T.region ?_
                    refine TL.move hF rfl rfl ?_
                    refine TL.move hF rfl rfl ?_
                    refine TL.indexAddr hF rfl rfl (hi.ad (i := k) (by omega)) (by omega) (by omega) rfl ?_
                    refine TL.fieldAddr hF rfl rfl ?_
                    refine TL.load hF rfl (hi.ro.at (i := k) (by omega) 1 rfl) rfl ?_
                    refine TL.move hF rfl rfl ?_
                    refine TL.indexAddr hF rfl rfl ((hi.arow (i := k) (by omega)).adi (i := j) (by simp; omega)) (by omega) (by omega) rfl ?_
                    refine TL.load hF rfl ((hi.arow (i := k) (by omega)).ro.int (i := j) (by omega)) rfl ?_
                    refine TL.bin hF rfl rfl rfl rfl ?_
                    refine TL.move hF rfl rfl ?_
                    refine TL.gd (t := 125) rfl (fun g24_125 => ?_) (fun g24_125 => ?_)
                    · refine TL.off hF rfl rfl rfl (decide_eq_true g24_125) rfl ?_
                      refine TL.off hF rfl rfl rfl (decide_eq_true g24_125) rfl ?_
                      refine TL.off hF rfl rfl rfl (decide_eq_true g24_125) rfl ?_
                      refine TL.off hF rfl rfl rfl (decide_eq_true g24_125) rfl ?_
                      refine TL.off hF rfl rfl rfl (decide_eq_true g24_125) rfl ?_
                      refine TL.off hF rfl rfl rfl (decide_eq_true g24_125) rfl ?_
                      refine TL.off hF rfl rfl rfl (decide_eq_true g24_125) rfl ?_
                      refine TL.off hF rfl rfl rfl (decide_eq_true g24_125) rfl ?_
                      refine TL.off hF rfl rfl rfl (decide_eq_true g24_125) rfl ?_
                      refine TL.off hF rfl rfl rfl (decide_eq_true g24_125) rfl ?_
                      refine TL.off hF rfl rfl rfl (decide_eq_true g24_125) rfl ?_
                      refine TL.pickT hF rfl (decide_eq_true g24_125) rfl rfl ?_
                      refine TL.nil ?_
                      refine TQ.then_n ?_
                      refine T.cond_t rfl rfl ?_
                      refine T.seq ?_
                      refine T.region ?_
                      refine TL.assign hF rfl rfl ?_
                      refine TL.nil ?_
                      refine TQ.then_n ?_
                      refine T.ret ?_
                      refine TQ.block_r ?_
                      refine TQ.then_r ?_
                      refine TQ.then_r ?_
                      refine TQ.block_r ?_
                      refine TQ.block_r ?_
                      refine TQ.then_r ?_
                      refine TQ.then_r ?_
                      refine TQ.block_r ?_
                      refine TQ.then_r ?_
                      refine TQ.rets [6] _ rfl rfl rfl ?_
                      have hin : inN ((all[k]'(by omega)).asks[j]'(by omega)) l.length = false := by rw [Bool.eq_false_iff]; intro h; have := inN_iff.1 h; omega
                      have hz : asksOk l (all[k]'(by omega)).asks = false := by rw [hjs, asksOk_drop (by omega), hin]; rfl
                      have hz2 : instE l (all[k]'(by omega)) = 2 := by rw [hinst, hsets, hz]; rfl
                      have e : checkS l all pick = 2 := by rw [hrest2, hz2]; rfl
                      exact ⟨by rw [e]; rfl, rfl⟩
                    · refine TL.on rfl rfl rfl (decide_eq_false g24_125) ?_
                      refine TL.move hF rfl rfl ?_
                      refine TL.on rfl rfl rfl (decide_eq_false g24_125) ?_
                      refine TL.move hF rfl rfl ?_
                      refine TL.on rfl rfl rfl (decide_eq_false g24_125) ?_
                      refine TL.indexAddr hF rfl rfl (hi.ad (i := k) (by omega)) (by omega) (by omega) rfl ?_
                      refine TL.on rfl rfl rfl (decide_eq_false g24_125) ?_
                      refine TL.fieldAddr hF rfl rfl ?_
                      refine TL.on rfl rfl rfl (decide_eq_false g24_125) ?_
                      refine TL.load hF rfl (hi.ro.at (i := k) (by omega) 1 rfl) rfl ?_
                      refine TL.on rfl rfl rfl (decide_eq_false g24_125) ?_
                      refine TL.move hF rfl rfl ?_
                      refine TL.on rfl rfl rfl (decide_eq_false g24_125) ?_
                      refine TL.indexAddr hF rfl rfl ((hi.arow (i := k) (by omega)).adi (i := j) (by simp; omega)) (by omega) (by omega) rfl ?_
                      refine TL.on rfl rfl rfl (decide_eq_false g24_125) ?_
                      refine TL.load hF rfl ((hi.arow (i := k) (by omega)).ro.int (i := j) (by omega)) rfl ?_
                      refine TL.on rfl rfl rfl (decide_eq_false g24_125) ?_
                      refine TL.move hF rfl rfl ?_
                      refine TL.on rfl rfl rfl (decide_eq_false g24_125) ?_
                      refine TL.len hF rfl rfl ?_
                      refine TL.on rfl rfl rfl (decide_eq_false g24_125) ?_
                      refine TL.bin hF rfl rfl rfl rfl ?_
                      refine TL.pickF hF rfl (decide_eq_false g24_125) rfl rfl ?_
                      refine TL.nil ?_
                      refine TQ.then_n ?_
                      first | refine T.cond_d rfl (fun ht137 => ?_) (fun ht137 => ?_) | refine T.cond _ rfl (fun ht137 => ?_) (fun ht137 => ?_)
                      · refine T.seq ?_
                        refine T.region ?_
                        refine TL.assign hF rfl rfl ?_
                        refine TL.nil ?_
                        refine TQ.then_n ?_
                        refine T.ret ?_
                        refine TQ.block_r ?_
                        refine TQ.then_r ?_
                        refine TQ.then_r ?_
                        refine TQ.block_r ?_
                        refine TQ.block_r ?_
                        refine TQ.then_r ?_
                        refine TQ.then_r ?_
                        refine TQ.block_r ?_
                        refine TQ.then_r ?_
                        refine TQ.rets [6] _ rfl rfl rfl ?_
                        have hin : inN ((all[k]'(by omega)).asks[j]'(by omega)) l.length = false := by rw [Bool.eq_false_iff]; intro h; have := inN_iff.1 h; omega
                        have hz : asksOk l (all[k]'(by omega)).asks = false := by rw [hjs, asksOk_drop (by omega), hin]; rfl
                        have hz2 : instE l (all[k]'(by omega)) = 2 := by rw [hinst, hsets, hz]; rfl
                        have e : checkS l all pick = 2 := by rw [hrest2, hz2]; rfl
                        exact ⟨by rw [e]; rfl, rfl⟩
                      · refine T.skip ?_
                        refine TQ.block_n ?_
                        refine TQ.then_n ?_
                        refine T.region ?_
                        refine TL.move hF rfl rfl ?_
                        refine TL.add hF rfl rfl (by omega) (by omega) rfl ?_
                        refine TL.assign hF rfl rfl ?_
                        refine TL.nil ?_
                        refine TQ.round (j + 1) ⟨by omega, by rw [hjs, asksOk_drop (by omega), inN_iff.2 (by omega)]; rfl⟩ (by omega) ⟨rfl, rfl, rfl, rfl, rfl, trivial⟩ rfl
                  · refine T.exit ?_
                    refine TQ.then_x ?_
                    refine TQ.then_x ?_
                    refine TQ.block_x ?_
                    refine TQ.block_n ?_
                    refine TQ.then_n ?_
                    refine T.region ?_
                    refine TL.move hF rfl rfl ?_
                    refine TL.add hF rfl rfl (by omega) (by omega) rfl ?_
                    refine TL.assign hF rfl rfl ?_
                    refine TL.nil ?_
                    have hz : instE l (all[k]'(by omega)) = 0 := by rw [hinst, hsets, hjs, asksOk_end (by omega)]; rfl
                    refine TQ.round (k + 1) ⟨by omega, by rw [hs1, instsE_drop (by omega), if_pos hz]⟩ (by omega) ⟨rfl, rfl, rfl, rfl, trivial⟩ rfl
          · refine T.exit ?_
            refine TQ.then_x ?_
            refine TQ.then_x ?_
            refine TQ.block_x ?_
            refine TQ.then_n ?_
            refine T.seq ?_
            refine T.region ?_
            refine TL.assign hF rfl rfl ?_
            refine TL.nil ?_
            refine TQ.then_n ?_
            refine T.ret ?_
            refine TQ.rets [6] _ rfl rfl rfl ?_
            exact ⟨by rw [hrest, hs1, List.drop_of_length_le (by omega)]; rfl, rfl⟩
end Go.Proofs.YtefkmiomldhmjaaDoor
/- The engine in memory; what looks up its words. -/
namespace Go.Proofs.YtefkmiomldhmjaaDoor
open Go.Sl
variable {S : Nat → Prop} {w0 : World} {η : Heap}
def KS (p : Int) : Value := .agg #[.int .i64 p]
theorem eq110 (a b : Int) (w : World) : (Op.equal 110 (KS a) (KS b)).run Tryd.prog w = .ok (decide (a = b)) w := by
  have hf : Tryd.prog.underlying 110 = some (.struct (Tryd.prog.fieldsOf 110)) := by kernel_rfl
  have hs : Tryd.prog.stoodInHeld 110 = false := by kernel_rfl
  obtain ⟨f1, h12, h3, h5, h7⟩ : ∃ f1, (Tryd.prog.fieldsOf 110).toList = [f1] ∧ f1.name ≠ "_" ∧ f1.type = 3 ∧ f1.offset = 0 := by
    unfold Program.fieldsOf; rw [Tryd.underlying110]
    exact ⟨_, rfl, by decide, rfl, rfl⟩
  have hp : ∀ (xs : Array Value) (o : Nat) (v : Value), xs[o]? = some v → (part 3 xs o).run Tryd.prog w = .ok v w := by
    intro xs o v h
    simp [part, Ag.eq (P := Tryd.prog) (t := 3) (b := false), h]
  unfold Op.equal KS
  rw [show Op.maxDepth = 9999 + 1 from rfl, run_equalIn_struct w 9999 110 _ _ hf hs, h12]
  have hall : AllF Tryd.prog w 9999 #[.int .i64 a] #[.int .i64 b] [f1] [(.int .i64 a, .int .i64 b, a == b)] :=
    ⟨⟨h3, by rw [h5, h7]; exact hp _ 0 _ rfl, by rw [h5, h7]; exact hp _ 0 _ rfl, by rw [h5]; exact run_equalIn_int w 9998 3 .i64 .i64 a b Tryd.underlying3⟩, trivial⟩
  rw [run_eqFields_all _ _ hall]
  by_cases h : a = b <;> simp [h]
instance : MKey Tryd.prog 110 KS where
  chk k e w := by kernel_rfl
  find k es l w h := by
    have h1 := find_asking (K := KS) (kt := 110) eq110 k es l 0 w h
    have h2 : (Instr.findKey 110 (KS k) es).run Tryd.prog w = (Instr.findAsking 110 (KS k) es 0).run Tryd.prog w := by
      have hu : ∃ fs, Tryd.prog.underlying 110 = some (.struct fs) := ⟨_, Tryd.underlying110⟩
      obtain ⟨fs, hu⟩ := hu
      have hr : (underlying 110).run Tryd.prog w = .ok (.struct fs) w := by simp [underlying, hu]
      cases es with
      | nil => simp [Instr.findKey, hr, Instr.findNow, Instr.findAsking]
      | cons e es => simp [Instr.findKey, hr, Instr.findNow, Instr.sameNow]
    rw [h2, h1]; simp
  same k := by simp [KS, Instr.sameBits]
/-- What of an engine stays. -/
structure EC where
  gb : Nat
  mb : Nat
  lb : Nat
  ob : Nat
  na : Option Addr
  nc : Nat
  sa : Option Addr
  sc : Nat
/-- What of an engine turns, beside the state of the chapter. -/
structure EX where
  at' : Nat
  es : Array MapEntry
  clock : Nat
  da : Option Addr
  dc : Nat
  dg : Seg
  av : Value
  wv : Value
abbrev engV (c : EC) (n pl : Nat) (x : EX) (dn many : Nat) : Array Value :=
  #[.slice c.na n c.nc, .slice c.sa pl c.sc, .int .i64 (x.at' : Int), .map (some c.mb), .slice (some ⟨c.lb, 0, none⟩) n n, .slice (some ⟨c.ob, 0, none⟩) n n, .slice x.da dn x.dc, .int .i64 (many : Int), x.av, x.wv]
abbrev engH (c : EC) (n pl : Nat) (x : EX) (s : St) (dn many : Nat) (η : Heap) : Heap :=
  [(c.gb, Obj.cells (engV c n pl x dn many) 88 (0, 0))] :: [(c.mb, Obj.map x.es x.clock)] :: iseg c.lb n s.L :: iseg c.ob n s.O :: x.dg :: η
/-- What the map of words holds. -/
def WMap (l : List NodeD) (s : St) (m : List (Int × Int)) : Prop := ∀ j, j < l.length → mget (j : Int) m = if (nd l j).op = 0 ∨ 0 ≤ s.L j then some (s.W j) else none
structure EOk (l : List NodeD) (x : EX) (s : St) (ds : List DoneD) : Prop where
  map : ∃ m, MObj KS (Value.int .i64) m x.es x.clock ∧ WMap l s m
  zero : ∀ j, j < l.length → (nd l j).op ≠ 0 → s.L j < 0 → s.W j = 0
  done : OSl 53 4 (.slice x.da ds.length x.dc) ds.length (ds.flatMap DoneD.cells) x.dg
  word : ∀ j, -2147483648 ≤ s.W j ∧ s.W j ≤ 2147483647
theorem EOk.get {l : List NodeD} {x : EX} {s : St} {ds : List DoneD} (h : EOk l x s ds) : ∃ m, MObj KS (Value.int .i64) m x.es x.clock ∧ WMap l s m ∧ (∀ j, j < l.length → (mget (j : Int) m).elim (Value.int .i64 0) (Value.int .i64) = .int .i64 (s.W j)) := by
  obtain ⟨m, h1, h2⟩ := h.map
  refine ⟨m, h1, h2, fun j hj => ?_⟩
  rw [h2 j hj]
  split
  · rfl
  · rename_i h3
    have h4 : (nd l j).op ≠ 0 ∧ s.L j < 0 := by omega
    rw [h.zero j hj h4.1 h4.2]; rfl
theorem WMap.some {l : List NodeD} {s : St} {m : List (Int × Int)} (h : WMap l s m) {j : Nat} (hj : j < l.length) (h0 : (nd l j).op ≠ 0) : (mget (j : Int) m).isSome = decide (0 ≤ s.L j) := by
  rw [h j hj]
  by_cases h1 : 0 ≤ s.L j
  · rw [if_pos (.inr h1)]; simp [h1]
  · rw [if_neg (by omega)]; simp [h1]

set_option maxHeartbeats 2000000 in
theorem pick_fn {c : EC} {n : Nat} {pick : List Int} {x : EX} {dn many : Nat} (hp : Row S w0 [] c.sa (ints pick)) (hpl : pick.length ≤ 200) (hat : x.at' ≤ 100000) :
    Rt Tryd.prog 65 [ptr c.gb].toArray S w0 ([(c.gb, Obj.cells (engV c n pick.length x dn many) 88 (0, 0))] :: η) (fun v η' => v = .int .i64 (if pick.length = 0 then 0 else pick.getD (x.at' % pick.length) 0) ∧ η' = [(c.gb, Obj.cells (engV c n pick.length { x with at' := if pick.length = 0 then x.at' else x.at' + 1 } dn many) 88 (0, 0))] :: η) := by
  have hF := open_wide
  refine Rt.of (fn := Tryd.f65) Tryd.func65 rfl rfl ?_
  refine T.seq ?_
  refine T.region ?_
  refine TL.assign hF rfl rfl ?_
  refine TL.nil ?_
  refine TQ.then_n ?_
  refine T.seq ?_
  refine T.seq ?_
  refine T.region ?_
  refine TL.move hF rfl rfl ?_
  refine TL.nilCheck hF rfl rfl ?_
  refine TL.fieldAddr hF rfl rfl ?_
  refine TL.load hF rfl (by first | exact At.own' (i := 0) rfl rfl | exact At.own' (i := 1) rfl rfl | exact At.own' (i := 2) rfl rfl | exact At.own' (i := 3) rfl rfl | exact At.own' (i := 4) rfl rfl | exact At.own' (i := 5) rfl rfl | exact At.own' (i := 6) rfl rfl | exact At.own' (i := 7) rfl rfl | exact At.own' (i := 8) rfl rfl | exact At.own' (i := 9) rfl rfl | exact At.own' (i := 10) rfl rfl | exact At.own' (i := 11) rfl rfl | exact At.own' (i := 12) rfl rfl) rfl ?_
  refine TL.len hF rfl rfl ?_
  refine TL.bin hF rfl rfl rfl rfl ?_
  refine TL.nil ?_
  refine TQ.then_n ?_
  first | refine T.cond_d rfl (fun ht9 => ?_) (fun ht9 => ?_) | refine T.cond _ rfl (fun ht9 => ?_) (fun ht9 => ?_)
  · refine T.seq ?_
    refine T.region ?_
    refine TL.assign hF rfl rfl ?_
    refine TL.nil ?_
    refine TQ.then_n ?_
    refine T.ret ?_
    refine TQ.then_r ?_
    refine TQ.rets [2] _ rfl rfl rfl ?_
    have h0 : pick.length = 0 := by omega
    exact ⟨by rw [if_pos h0]; rfl, by rw [if_pos h0]⟩
  · refine T.skip ?_
    refine TQ.then_n ?_
    refine T.seq ?_
    have hpos : 0 < pick.length := by omega
    have hmod := Nat.mod_lt x.at' hpos
    refine T.draw ?_
    refine DR.stepV [_] rfl [(0, _, none)] rfl rfl ⟨⟨rfl, by kernel_rfl⟩, trivial⟩ (fun ext => TL.move hF rfl rfl TL.fin) ?_
    refine DR.stepV [_, _] rfl [(10, _, some 0)] rfl rfl ⟨⟨rfl, rfl, rfl⟩, trivial⟩ (fun ext => TL.nilCheck hF rfl rfl TL.fin) ?_
    refine DR.stepV [_, _, _] rfl [(11, _, some 1)] rfl rfl ⟨⟨rfl, rfl, rfl⟩, trivial⟩ (fun ext => TL.fieldAddr hF rfl rfl TL.fin) ?_
    refine DR.stepV [_, _, _, _] rfl [(12, _, some 2)] rfl rfl ⟨⟨rfl, rfl, rfl⟩, trivial⟩ (fun ext => TL.load hF rfl (by first | exact At.own' (i := 0) rfl rfl | exact At.own' (i := 1) rfl rfl | exact At.own' (i := 2) rfl rfl | exact At.own' (i := 3) rfl rfl | exact At.own' (i := 4) rfl rfl | exact At.own' (i := 5) rfl rfl | exact At.own' (i := 6) rfl rfl | exact At.own' (i := 7) rfl rfl | exact At.own' (i := 8) rfl rfl | exact At.own' (i := 9) rfl rfl | exact At.own' (i := 10) rfl rfl | exact At.own' (i := 11) rfl rfl | exact At.own' (i := 12) rfl rfl) rfl TL.fin) ?_
    refine DR.stepV [_, _, _, _, _] rfl [(0, _, none)] rfl rfl ⟨⟨rfl, by kernel_rfl⟩, trivial⟩ (fun ext => TL.move hF rfl rfl TL.fin) ?_
    refine DR.stepV [_, _, _, _, _, _] rfl [(14, _, some 4)] rfl rfl ⟨⟨rfl, rfl, rfl⟩, trivial⟩ (fun ext => TL.nilCheck hF rfl rfl TL.fin) ?_
    refine DR.stepV [_, _, _, _, _, _, _] rfl [(15, _, some 5)] rfl rfl ⟨⟨rfl, rfl, rfl⟩, trivial⟩ (fun ext => TL.fieldAddr hF rfl rfl TL.fin) ?_
    refine DR.stepV [_, _, _, _, _, _, _, _] rfl [(16, _, some 6)] rfl rfl ⟨⟨rfl, rfl, rfl⟩, trivial⟩ (fun ext => TL.load hF rfl (by first | exact At.own' (i := 0) rfl rfl | exact At.own' (i := 1) rfl rfl | exact At.own' (i := 2) rfl rfl | exact At.own' (i := 3) rfl rfl | exact At.own' (i := 4) rfl rfl | exact At.own' (i := 5) rfl rfl | exact At.own' (i := 6) rfl rfl | exact At.own' (i := 7) rfl rfl | exact At.own' (i := 8) rfl rfl | exact At.own' (i := 9) rfl rfl | exact At.own' (i := 10) rfl rfl | exact At.own' (i := 11) rfl rfl | exact At.own' (i := 12) rfl rfl) rfl TL.fin) ?_
    refine DR.stepV [_, _, _, _, _, _, _, _, _] rfl [(0, _, none)] rfl rfl ⟨⟨rfl, by kernel_rfl⟩, trivial⟩ (fun ext => TL.move hF rfl rfl TL.fin) ?_
    refine DR.stepV [_, _, _, _, _, _, _, _, _, _] rfl [(18, _, some 8)] rfl rfl ⟨⟨rfl, rfl, rfl⟩, trivial⟩ (fun ext => TL.nilCheck hF rfl rfl TL.fin) ?_
    refine DR.stepV [_, _, _, _, _, _, _, _, _, _, _] rfl [(19, _, some 9)] rfl rfl ⟨⟨rfl, rfl, rfl⟩, trivial⟩ (fun ext => TL.fieldAddr hF rfl rfl TL.fin) ?_
    refine DR.stepV [_, _, _, _, _, _, _, _, _, _, _, _] rfl [(20, _, some 10)] rfl rfl ⟨⟨rfl, rfl, rfl⟩, trivial⟩ (fun ext => TL.load hF rfl (by first | exact At.own' (i := 0) rfl rfl | exact At.own' (i := 1) rfl rfl | exact At.own' (i := 2) rfl rfl | exact At.own' (i := 3) rfl rfl | exact At.own' (i := 4) rfl rfl | exact At.own' (i := 5) rfl rfl | exact At.own' (i := 6) rfl rfl | exact At.own' (i := 7) rfl rfl | exact At.own' (i := 8) rfl rfl | exact At.own' (i := 9) rfl rfl | exact At.own' (i := 10) rfl rfl | exact At.own' (i := 11) rfl rfl | exact At.own' (i := 12) rfl rfl) rfl TL.fin) ?_
    refine DR.stepV [_, _, _, _, _, _, _, _, _, _, _, _, _] rfl [(21, _, some 11)] rfl rfl ⟨⟨rfl, rfl, rfl⟩, trivial⟩ (fun ext => TL.len hF rfl rfl TL.fin) ?_
    refine DR.stepV [_, _, _, _, _, _, _, _, _, _, _, _, _, _] rfl [(17, _, some 7), (22, _, some 12)] rfl rfl ⟨⟨rfl, rfl, rfl⟩, ⟨rfl, rfl, rfl⟩, trivial⟩ (fun ext => TL.remN hF (a := x.at') (b := pick.length) rfl rfl hpos rfl TL.fin) ?_
    refine DR.done [(23, _), (22, _), (21, _), (20, _), (19, _), (18, _), (17, _), (16, _), (15, _), (14, _), (13, _), (12, _), (11, _), (10, _)] [_, _, _] mixed (by kernel_rfl) (by kernel_rfl) (by kernel_rfl) rfl rfl ?_
    refine TL.indexAddr hF rfl rfl (hp.adi (i := x.at' % pick.length) (by simp; omega)) (by omega) (by omega) rfl ?_
    refine TL.load hF rfl (hp.ro.int (i := x.at' % pick.length) (by omega)) rfl ?_
    refine TL.assign hF rfl rfl ?_
    refine TL.nil ?_
    refine TQ.then_n ?_
    refine T.seq ?_
    refine T.region ?_
    refine TL.move hF rfl rfl ?_
    refine TL.nilCheck hF rfl rfl ?_
    refine TL.fieldAddr hF rfl rfl ?_
    refine TL.load hF rfl (by first | exact At.own' (i := 0) rfl rfl | exact At.own' (i := 1) rfl rfl | exact At.own' (i := 2) rfl rfl | exact At.own' (i := 3) rfl rfl | exact At.own' (i := 4) rfl rfl | exact At.own' (i := 5) rfl rfl | exact At.own' (i := 6) rfl rfl | exact At.own' (i := 7) rfl rfl | exact At.own' (i := 8) rfl rfl | exact At.own' (i := 9) rfl rfl | exact At.own' (i := 10) rfl rfl | exact At.own' (i := 11) rfl rfl | exact At.own' (i := 12) rfl rfl) rfl ?_
    refine TL.add hF rfl rfl (by omega) (by omega) rfl ?_
    refine TL.nilCheck hF rfl rfl ?_
    refine TL.fieldAddr hF rfl rfl ?_
    refine TL.storeI hF 0 rfl rfl rfl rfl (by simp) ?_
    refine TL.nil ?_
    refine TQ.then_n ?_
    refine T.seq ?_
    refine T.region ?_
    refine TL.move hF rfl rfl ?_
    refine TL.assign hF rfl rfl ?_
    refine TL.nil ?_
    refine TQ.then_n ?_
    refine T.ret ?_
    refine TQ.rets [2] _ rfl rfl rfl ?_
    have h0 : pick.length ≠ 0 := by omega
    refine ⟨by rw [if_neg h0, List.getD_eq_getElem?_getD, List.getElem?_eq_getElem hmod]; rfl, by rw [if_neg h0]; simp⟩
set_option maxHeartbeats 2000000 in
theorem word_fn {c : EC} {l : List NodeD} {pl : Nat} {x : EX} {s : St} {ds : List DoneD} {dn many bb j : Nat} (hx : EOk l x s ds) (hj : j < l.length) (h1 : [(bb, Obj.cells #[ptr c.gb] 89 (0, 0))] ∈ η) (h2 : [(c.gb, Obj.cells (engV c l.length pl x dn many) 88 (0, 0))] ∈ η) (h3 : [(c.mb, Obj.map x.es x.clock)] ∈ η) :
    Rt Tryd.prog 61 [.int .i64 (j : Int), ptr bb].toArray S w0 η (fun v η' => v = .int .i64 (s.W j) ∧ η' = η) := by
  have hF := open_wide
  refine Rt.of (fn := Tryd.f61) Tryd.func61 rfl rfl ?_
  refine T.seq ?_
  refine T.region ?_
  refine TL.assign hF rfl rfl ?_
  refine TL.nil ?_
  refine TQ.then_n ?_
  refine T.seq ?_
  refine T.region ?_
  obtain ⟨m, hm, hw, hv⟩ := hx.get
  refine TL.load hF rfl (own_mem h1 rfl) rfl ?_
  refine TL.nilCheck hF rfl rfl ?_
  refine TL.fieldAddr hF rfl rfl ?_
  refine TL.load hF rfl (own_mem h2 rfl) rfl ?_
  refine TL.move hF rfl rfl ?_
  refine TL.build hF rfl (r := KS j) (fun w => by kernel_rfl) rfl ?_
  refine TL.lookup hF (Value.int .i64) (j : Int) rfl rfl h3 hm rfl ?_
  refine TL.assign hF rfl rfl ?_
  refine TL.nil ?_
  refine TQ.then_n ?_
  refine T.ret ?_
  refine TQ.rets [3] _ rfl rfl rfl ?_
  exact ⟨hv j hj, rfl⟩
set_option maxHeartbeats 2000000 in
theorem lookW_fn {c : EC} {l : List NodeD} {pl : Nat} {x : EX} {s : St} {ds : List DoneD} {dn many bb nb j : Nat} {y : NodeD} (hx : EOk l x s ds) (hf : Row S w0 [] y.fa (ints y.fr)) (hj : j < y.fr.length) (_hfl : y.fr.length < 2 ^ 63) (hin : ∀ f ∈ y.fr, 0 ≤ f ∧ f < l.length) (h1 : [(bb, Obj.cells #[ptr c.gb] 89 (0, 0))] ∈ η) (h2 : [(c.gb, Obj.cells (engV c l.length pl x dn many) 88 (0, 0))] ∈ η) (h3 : [(c.mb, Obj.map x.es x.clock)] ∈ η) (h4 : [(nb, Obj.cells y.cells.toArray 55 (0, 0))] ∈ η) :
    Rt Tryd.prog 70 [.int .i64 (j : Int), ptr bb, ptr nb].toArray S w0 η (fun v η' => v = .int .i64 (s.W (y.fr.getD j 0).toNat) ∧ η' = η) := by
  have hF := open_wide
  refine Rt.of (fn := Tryd.f70) Tryd.func70 rfl rfl ?_
  refine T.seq ?_
  refine T.region ?_
  refine TL.assign hF rfl rfl ?_
  refine TL.nil ?_
  refine TQ.then_n ?_
  refine T.seq ?_
  obtain ⟨m, hm, hw, hv⟩ := hx.get
  have hi := hin (y.fr[j]'hj) (List.getElem_mem _)
  have hv2 := hv (y.fr[j]'hj).toNat (by omega)
  rw [Int.toNat_of_nonneg hi.1] at hv2
  refine T.draw ?_
  refine DR.stepV [_] rfl [(1, _, none)] rfl rfl ⟨⟨rfl, by kernel_rfl⟩, trivial⟩ (fun ext => TL.load hF rfl (own_mem h1 rfl) rfl TL.fin) ?_
  refine DR.stepV [_, _] rfl [(5, _, some 0)] rfl rfl ⟨⟨rfl, rfl, rfl⟩, trivial⟩ (fun ext => TL.nilCheck hF rfl rfl TL.fin) ?_
  refine DR.stepV [_, _, _] rfl [(6, _, some 1)] rfl rfl ⟨⟨rfl, rfl, rfl⟩, trivial⟩ (fun ext => TL.fieldAddr hF rfl rfl TL.fin) ?_
  refine DR.stepV [_, _, _, _] rfl [(7, _, some 2)] rfl rfl ⟨⟨rfl, rfl, rfl⟩, trivial⟩ (fun ext => TL.load hF rfl (own_mem h2 rfl) rfl TL.fin) ?_
  refine DR.stepV [_, _, _, _, _] rfl [(2, _, none)] rfl rfl ⟨⟨rfl, by kernel_rfl⟩, trivial⟩ (fun ext => TL.fieldAddr hF rfl rfl TL.fin) ?_
  refine DR.stepV [_, _, _, _, _, _] rfl [(9, _, some 4)] rfl rfl ⟨⟨rfl, rfl, rfl⟩, trivial⟩ (fun ext => TL.load hF rfl (own_mem h4 rfl) rfl TL.fin) ?_
  refine DR.stepV [_, _, _, _, _, _, _] rfl [(0, _, none)] rfl rfl ⟨⟨rfl, by kernel_rfl⟩, trivial⟩ (fun ext => TL.move hF rfl rfl TL.fin) ?_
  refine DR.stepV [_, _, _, _, _, _, _, _] rfl [(10, _, some 5), (11, _, some 6)] rfl rfl ⟨⟨rfl, rfl, rfl⟩, ⟨rfl, rfl, rfl⟩, trivial⟩ (fun ext => TL.indexAddr hF rfl rfl (hf.adi (i := j) (by simp; omega)) (by omega) (by omega) rfl TL.fin) ?_
  refine DR.stepV [_, _, _, _, _, _, _, _, _] rfl [(12, _, some 7)] rfl rfl ⟨⟨rfl, rfl, rfl⟩, trivial⟩ (fun ext => TL.load hF rfl (hf.ro.int (i := j) hj) rfl TL.fin) ?_
  refine DR.stepV [_, _, _, _, _, _, _, _, _, _] rfl [(13, _, some 8)] rfl rfl ⟨⟨rfl, rfl, rfl⟩, trivial⟩ (fun ext => TL.build hF rfl (r := KS (y.fr[j]'hj)) (fun w => by kernel_rfl) rfl TL.fin) ?_
  refine DR.done [(14, _), (13, _), (12, _), (11, _), (10, _), (9, _), (8, _), (7, _), (6, _), (5, _)] [_, _] mixed (by kernel_rfl) (by kernel_rfl) (by kernel_rfl) rfl rfl ?_
  refine TL.lookup hF (Value.int .i64) (y.fr[j]'hj) rfl rfl h3 hm rfl ?_
  refine TL.assign hF rfl rfl ?_
  refine TL.nil ?_
  refine TQ.then_n ?_
  refine T.ret ?_
  refine TQ.rets [4] _ rfl rfl rfl ?_
  exact ⟨by rw [List.getD_eq_getElem?_getD, List.getElem?_eq_getElem hj]; exact hv2, rfl⟩
end Go.Proofs.YtefkmiomldhmjaaDoor
