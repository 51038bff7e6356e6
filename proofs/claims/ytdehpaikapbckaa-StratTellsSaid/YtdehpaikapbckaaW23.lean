/- A shortest cycle that begins with a denial, by the program. -/
import Derived.Test.YtdehpaikapbckaaW22
namespace Go.Proofs.Ytdehpaikapbckaa
open Go.Sl
variable {S : Nat → Prop} {w0 : World} {η : Heap}
theorem take_sorted {l : List Nat} (hs : l.Pairwise (· < ·)) : ∀ {i x : Nat} (hi : i < l.length), x ∈ l → x < l[i] → x ∈ l.take i := by
  induction l with
  | nil => intro i x hi; simp at hi
  | cons y r ih =>
    intro i x hi hx hlt
    obtain ⟨h1, h2⟩ := List.pairwise_cons.1 hs
    cases i with
    | zero =>
      simp only [List.getElem_cons_zero] at hlt
      rcases List.mem_cons.1 hx with e | hx
      · omega
      · have := h1 x hx; omega
    | succ i =>
      simp only [List.getElem_cons_succ] at hlt
      rw [List.take_succ_cons]
      rcases List.mem_cons.1 hx with e | hx
      · rw [e]; exact List.mem_cons_self
      · exact List.mem_cons_of_mem _ (ih h2 (by simpa using hi) hx hlt)
theorem succs_sorted (U : Int → Int → Bool → Bool) (n r : Nat) : (succs U n r).Pairwise (· < ·) := List.pairwise_lt_range.sublist List.filter_sublist
/-- A cycle by a denial, or nothing. -/
def roundS (E : Nat → Nat → Bool) (n a b : Nat) : List Nat := if 0 ≤ distS E n a b then candS E n a b else []
structure RSt where
  r : Nat
  k : Nat
  l : List Nat
  la : Option Addr
  lc : Nat
  lg : Seg
  br : Nat
  ms : List Nat

set_option maxHeartbeats 2000000 in
theorem round_fn {bw n p q : Nat} {U : Int → Int → Bool → Bool} {m : List ((Int × Int) × Bool)} (hn : n ≤ 48) (hw : Web η bw n U m) (hp : p < n) (hq : q < n) :
    Rt Try.prog 34 [ptr bw, KU ((p : Int), (q : Int))].toArray S w0 η (fun v η' => ∃ a cap seg, v = .slice a (roundS (EN U) n p q).length cap ∧ η' = seg :: η ∧ OSl 3 1 (.slice a (roundS (EN U) n p q).length cap) (roundS (EN U) n p q).length (nats (roundS (EN U) n p q)) seg) := by
  have hF := open_wide
  refine Rt.ofL (fn := Try.f34) Try.func34 rfl rfl ?_
  refine T.seq ?_
  refine T.region ?_
  refine TL.box hF rfl rfl (fun b3 => ?_)
  refine TL.assign hF rfl rfl ?_
  refine TL.nil ?_
  refine TQ.then_n ?_
  refine T.seq ?_
  refine T.seq ?_
  refine T.region ?_
  refine TL.fieldAddr hF rfl rfl ?_
  refine TL.load hF rfl (own_list (i := 0) (cs := [.int .i64 (p : Int), .int .i64 (q : Int)]) rfl 0 _ rfl) rfl ?_
  refine TL.fieldAddr hF rfl rfl ?_
  refine TL.load hF rfl (own_list (i := 0) (cs := [.int .i64 (p : Int), .int .i64 (q : Int)]) rfl 1 _ rfl) rfl ?_
  refine TL.bin hF rfl rfl rfl rfl ?_
  refine TL.nil ?_
  refine TQ.then_n ?_
  first | refine T.cond_d rfl (fun ht13 => ?_) (fun ht13 => ?_) | refine T.cond _ rfl (fun ht13 => ?_) (fun ht13 => ?_)
  · refine T.seq ?_
    refine T.region ?_
    refine TL.fieldAddr hF rfl rfl ?_
    refine TL.load hF rfl (own_list (i := 0) (cs := [.int .i64 (p : Int), .int .i64 (q : Int)]) rfl 0 _ rfl) rfl ?_
    refine TL.buildSlice hF rfl (cs := #[.int .i64 (p : Int)]) (e := 3) (fun w => by kernel_rfl) rfl (fun b16 => ?_)
    refine TL.assign hF rfl rfl ?_
    refine TL.nil ?_
    refine TQ.then_n ?_
    refine T.ret ?_
    refine TQ.then_r ?_
    refine TQ.hsub ([(b16, .cells #[.int .i64 (p : Int)] 3 (0, 0))] :: η) (List.Sublist.cons_cons _ (List.sublist_cons_self _ _)) ?_
    refine TQ.retL0 [4] _ rfl rfl rfl ?_
    have e : p = q := by have h : (p : Int) = q := ht13; omega
    subst e
    have hr : roundS (EN U) n p p = [p] := by unfold roundS; rw [(distS_is hp).z]; simp [candS, (distS_is hp).z, wayS]
    rw [hr]
    exact ⟨_, _, _, rfl, rfl, rfl, .inr ⟨b16, 1, _, rfl, rfl, Nat.le_refl _, rfl, rfl⟩⟩
  · refine T.skip ?_
    refine TQ.then_n ?_
    refine T.seq ?_
    refine T.region ?_
    refine TL.move hF rfl rfl ?_
    refine TL.fieldAddr hF rfl rfl ?_
    refine TL.load hF rfl (own_list (i := 0) (cs := [.int .i64 (p : Int), .int .i64 (q : Int)]) rfl 0 _ rfl) rfl ?_
    refine TL.call hF (far_prog hn (hw.up upc) hp) rfl rfl ?_
    rintro _ _ ⟨bf, rfl, rfl⟩
    refine TL.alloc hF rfl (fun b5 => ?_)
    first | refine TL.storeI hF 0 rfl rfl rfl rfl (by first | decide | simp) ?_ | refine TL.storeI hF 1 rfl rfl rfl rfl (by first | decide | simp) ?_ | refine TL.storeI hF 2 rfl rfl rfl rfl (by first | decide | simp) ?_ | refine TL.storeI hF 3 rfl rfl rfl rfl (by first | decide | simp) ?_
    refine TL.nil ?_
    refine TQ.then_n ?_
    refine T.seq ?_
    refine T.seq ?_
    refine T.region ?_
    refine TL.load hF rfl (by first | exact At.own' (i := 0) rfl rfl | exact At.own' (i := 1) rfl rfl | exact At.own' (i := 2) rfl rfl | exact At.own' (i := 3) rfl rfl | exact At.own' (i := 4) rfl rfl) rfl ?_
    refine TL.fieldAddr hF rfl rfl ?_
    refine TL.load hF rfl (own_list (i := 2) (cs := [.int .i64 (p : Int), .int .i64 (q : Int)]) rfl 1 _ rfl) rfl ?_
    refine TL.indexAddr hF rfl rfl ⟨_, rfl, rfl⟩ (by omega) (by omega) rfl ?_
    refine TL.load hF rfl (iseg_at (f := distS (EN U) n p) (n := n) (b := bf) (j := q) (upc _ List.mem_cons_self) (by omega)) rfl ?_
    refine TL.bin hF rfl rfl rfl rfl ?_
    refine TL.nil ?_
    refine TQ.then_n ?_
    first | refine T.cond_d rfl (fun ht26 => ?_) (fun ht26 => ?_) | refine T.cond _ rfl (fun ht26 => ?_) (fun ht26 => ?_)
    · refine T.seq ?_
      refine T.region ?_
      refine TL.assign hF rfl rfl ?_
      refine TL.nil ?_
      refine TQ.then_n ?_
      refine T.ret ?_
      refine TQ.then_r ?_
      have hr : roundS (EN U) n p q = [] := by unfold roundS; rw [if_neg (by have h : distS (EN U) n p q < 0 := ht26; omega)]
      refine TQ.hsub η (List.Sublist.cons _ (List.Sublist.cons _ (List.sublist_cons_self _ _))) ?_
      refine TQ.hnil ?_
      refine TQ.retL0 [4] _ rfl rfl rfl ?_
      rw [hr]
      exact ⟨none, 0, [], rfl, rfl, OSl.nil 3 1⟩
    · refine T.skip ?_
      refine TQ.then_n ?_
      refine T.seq ?_
      refine T.region ?_
      refine TL.fieldAddr hF rfl rfl ?_
      refine TL.load hF rfl (own_list (i := 2) (cs := [.int .i64 (p : Int), .int .i64 (q : Int)]) rfl 0 _ rfl) rfl ?_
      refine TL.buildSlice hF rfl (cs := #[.int .i64 (p : Int)]) (e := 3) (fun w => by kernel_rfl) rfl (fun b29 => ?_)
      refine TL.assign hF rfl rfl ?_
      refine TL.nil ?_
      refine TQ.then_n ?_
      refine T.seq ?_
      refine T.seq ?_
      refine T.region ?_
      refine TL.fieldAddr hF rfl rfl ?_
      refine TL.load hF rfl (own_list (i := 3) (cs := [.int .i64 (p : Int), .int .i64 (q : Int)]) rfl 1 _ rfl) rfl ?_
      refine TL.alloc hF rfl (fun b7 => ?_)
      first | refine TL.storeI hF 0 rfl rfl rfl rfl (by first | decide | simp) ?_ | refine TL.storeI hF 1 rfl rfl rfl rfl (by first | decide | simp) ?_ | refine TL.storeI hF 2 rfl rfl rfl rfl (by first | decide | simp) ?_ | refine TL.storeI hF 3 rfl rfl rfl rfl (by first | decide | simp) ?_
      refine TL.nil ?_
      refine TQ.then_n ?_
      refine T.block ?_
      have hD := distS_is (E := EN U) hp
      have hDlt : ∀ a, a < n → distS (EN U) n p a < n := fun a ha => levS_lt ha
      have hpq : p ≠ q := by have h := ht13; omega
      have hd0 : 0 ≤ distS (EN U) n p q := by have h : ¬ distS (EN U) n p q < 0 := ht26; omega
      have hlo : ∀ a, a < n → -1 ≤ distS (EN U) n p a := hD.lo
      refine T.hperm ([(b29, .cells #[.int .i64 (p : Int)] 3 (0, 0))] :: [(b7, .cells #[.int .i64 ((q : Nat) : Int)] 3 (0, 0))] :: [(b5, .cells #[.slice (some ⟨bf, 0, none⟩) n n] 23 (0, 0))] :: iseg bf n (distS (EN U) n p) :: [(b3, .cells #[.int .i64 (p : Int), .int .i64 (q : Int)] 76 (0, 0))] :: (marksH [] ++ η)) (List.Perm.swap _ _ _) ?_
      refine T.loopD (ι := RSt) (fun s => s.r < n ∧ distS (EN U) n p s.r = s.k ∧ s.l.length + s.k ≤ n ∧ candS (EN U) n p q = s.l ++ wayS (EN U) n (distS (EN U) n p) s.k s.r ∧ OSl 3 1 (.slice s.la s.l.length s.lc) s.l.length (nats s.l) s.lg) (fun s => [(0, ptr bw), (3, ptr b3), (5, ptr b5), (6, .slice s.la s.l.length s.lc), (7, ptr s.br)]) (fun s => s.lg :: [(s.br, .cells #[.int .i64 ((s.r : Nat) : Int)] 3 (0, 0))] :: [(b5, .cells #[.slice (some ⟨bf, 0, none⟩) n n] 23 (0, 0))] :: iseg bf n (distS (EN U) n p) :: [(b3, .cells #[.int .i64 (p : Int), .int .i64 (q : Int)] 76 (0, 0))] :: (marksH s.ms ++ η)) (fun s => marksOf s.ms ++ []) (fun s => s.k) ⟨q, (distS (EN U) n p q).toNat, [p], some ⟨b29, 0, none⟩, 1, [(b29, .cells #[.int .i64 (p : Int)] 3 (0, 0))], b7, []⟩ ⟨hq, by simp only; omega, by have := hDlt q hq; simp only [List.length_singleton]; omega, rfl, ⟨rfl, .inr ⟨b29, 1, _, rfl, rfl, Nat.le_refl _, rfl, rfl⟩⟩⟩ ⟨rfl, rfl, rfl, rfl, rfl, trivial⟩ rfl rfl ?_
      rintro s ⟨hr, hdk, hlk, hcand, ho⟩
      refine T.seq ?_
      refine T.seq ?_
      refine T.region ?_
      refine TL.load hF rfl (At.own' (i := 1) rfl rfl) rfl ?_
      refine TL.fieldAddr hF rfl rfl ?_
      refine TL.load hF rfl (own_list (i := 4) (cs := [.int .i64 (p : Int), .int .i64 (q : Int)]) rfl 0 _ rfl) rfl ?_
      refine TL.bin hF rfl rfl rfl rfl ?_
      refine TL.nil ?_
      refine TQ.then_n ?_
      first | refine T.cond_d rfl (fun ht35 => ?_) (fun ht35 => ?_) | refine T.cond _ rfl (fun ht35 => ?_) (fun ht35 => ?_)
      · refine T.skip ?_
        refine TQ.then_n ?_
        refine T.seq ?_
        refine T.block ?_
        refine T.seq ?_
        refine T.region ?_
        refine TL.move hF rfl rfl ?_
        refine TL.load hF rfl (At.own' (i := 1) rfl rfl) rfl ?_
        refine TL.buildSlice hF rfl (cs := #[.int .i64 (s.r : Int)]) (e := 3) (fun w => by kernel_rfl) rfl (fun b38 => ?_)
        refine TL.append hF 1 rfl rfl rfl ho (row_own (cs := [.int .i64 (s.r : Int)]) (e := 3) (by simp)).src rfl rfl (by simp [Value.oneCell']) (by omega) (by omega) rfl (fun a' cap' seg' ho' => ?_)
        refine TL.assign hF rfl rfl ?_
        refine TL.nil ?_
        refine TQ.then_n ?_
        refine T.seq ?_
        have hkpos : 0 < s.k := by
          rcases Nat.eq_zero_or_pos s.k with h | h
          · have h2 := hD.zt s.r hr (by rw [hdk, h]; rfl)
            have h3 : (s.r : Int) ≠ p := ht35
            omega
          · exact h
        obtain ⟨k', hk'⟩ : ∃ k', s.k = k' + 1 := ⟨s.k - 1, by omega⟩
        refine T.hsub (seg' :: [(s.br, .cells #[.int .i64 ((s.r : Nat) : Int)] 3 (0, 0))] :: [(b5, .cells #[.slice (some ⟨bf, 0, none⟩) n n] 23 (0, 0))] :: iseg bf n (distS (EN U) n p) :: [(b3, .cells #[.int .i64 (p : Int), .int .i64 (q : Int)] 76 (0, 0))] :: (marksH s.ms ++ η)) (List.sublist_cons_self _ _) ?_
        refine T.draw ?_
        refine DR.stepV [_] rfl [(0, _, none)] rfl rfl ⟨⟨rfl, by kernel_rfl⟩, trivial⟩ (fun ext => TL.move hF rfl rfl TL.fin) ?_
        refine DR.stepV [_, _] rfl [(7, _, none)] rfl rfl ⟨⟨rfl, by kernel_rfl⟩, trivial⟩ (fun ext => TL.load hF rfl (At.own' (i := 1) rfl rfl) rfl TL.fin) ?_
        refine DR.stepV [_, _, _] rfl [] rfl rfl trivial (fun ext => TL.callV hF (all_fn) rfl rfl TL.fin) ?_
        refine DR.stepV [_, _, _, _] rfl [(42, _, some 2)] rfl rfl ⟨⟨rfl, rfl, rfl⟩, trivial⟩ (fun ext => TL.indexR hF rfl rfl (r := .agg #[fnV 60]) (fun w => by kernel_rfl) rfl TL.fin) ?_
        refine DR.done [(43, _), (42, _), (41, _), (40, _)] [_] mixed (by kernel_rfl) (by kernel_rfl) (by kernel_rfl) rfl rfl ?_
        refine TL.call hF (from_fn (ptr bw) rfl s.r 60) rfl rfl ?_
        rintro _ _ ⟨c3, c4, c5, rfl, rfl⟩
        refine TL.nil ?_
        refine TQ.then_n ?_
        refine T.block ?_
        refine T.rangeFunc (fst := []) (cap := [ptr c3, ptr c5, ptr c4]) rfl (from_iter (S := S) (w0 := w0) (b3 := c3) (b4 := c4) (b5 := c5) (bw := bw) (r := s.r) (g := 60) (n := n) (U := U) (m := m) (by omega) (kind_any U)) (by
            intro e he; obtain ⟨x, _, rfl⟩ := List.mem_map.1 he; rfl) (by simp) (fun i η1 => η1 = [(c5, .cells #[fnV 60] 72 (0, 0))] :: [(c4, .cells #[.int .i64 (s.r : Int)] 3 (0, 0))] :: [(c3, .cells #[ptr bw] 59 (0, 0))] :: seg' :: [(s.br, .cells #[.int .i64 ((s.r : Nat) : Int)] 3 (0, 0))] :: [(b5, .cells #[.slice (some ⟨bf, 0, none⟩) n n] 23 (0, 0))] :: iseg bf n (distS (EN U) n p) :: [(b3, .cells #[.int .i64 (p : Int), .int .i64 (q : Int)] 76 (0, 0))] :: (marksH s.ms ++ η) ∧ ∀ x ∈ (succs U n s.r).take i, distS (EN U) n p x ≠ distS (EN U) n p s.r - 1) (fun c η1 => c = .exit 2 ∧ η1 = [(c5, .cells #[fnV 60] 72 (0, 0))] :: [(c4, .cells #[.int .i64 (s.r : Int)] 3 (0, 0))] :: [(c3, .cells #[ptr bw] 59 (0, 0))] :: seg' :: [(s.br, .cells #[.int .i64 ((nextS (EN U) n (distS (EN U) n p) s.r : Nat) : Int)] 3 (0, 0))] :: [(b5, .cells #[.slice (some ⟨bf, 0, none⟩) n n] 23 (0, 0))] :: iseg bf n (distS (EN U) n p) :: [(b3, .cells #[.int .i64 (p : Int), .int .i64 (q : Int)] 76 (0, 0))] :: (marksH s.ms ++ η) ∧ nextS (EN U) n (distS (EN U) n p) s.r < n ∧ distS (EN U) n p (nextS (EN U) n (distS (EN U) n p) s.r) = distS (EN U) n p s.r - 1) ⟨rfl, by simp⟩ ?_ ?_ ?_ ?_
        · rintro i _ tl ⟨rfl, _⟩
          exact ⟨by simp, by simp, by simp, hw.up (fun x hx => by simp [hx])⟩
        · rintro l tl tl' i e _ hie ⟨rfl, hno⟩
          have hF := open_round l
          have hil : i < (succs U n s.r).length := by have := (List.getElem?_eq_some_iff.1 hie).1; simpa [succs] using this
          have hee : e = [.int .i64 (((succs U n s.r)[i] : Nat) : Int)] := by
            have := (List.getElem?_eq_some_iff.1 hie).2; rw [← this]; simp [succs]
          subst hee
          have hxm : (succs U n s.r)[i] ∈ succs U n s.r := List.getElem_mem _
          generalize hxv : (succs U n s.r)[i] = x at hxm ⊢
          have hx2 : x < n ∧ U s.r x false = true := by simpa [succs] using hxm
          have hbd1 := hlo x hx2.1
          have hbd2 := hDlt x hx2.1
          refine T.region ?_
          refine TL.assign hF rfl rfl ?_
          refine TL.nil ?_
          refine TQ.swapT _ rfl ?_
          refine T.block ?_
          refine T.seq ?_
          refine T.draw ?_
          refine DR.stepV [_] rfl [(5, _, none)] rfl rfl ⟨⟨rfl, by kernel_rfl⟩, trivial⟩ (fun ext => TL.load hF rfl (At.own' (i := 5) rfl rfl) rfl TL.fin) ?_
          refine DR.stepV [_, _] rfl [(8, _, none)] rfl rfl ⟨⟨rfl, by kernel_rfl⟩, trivial⟩ (fun ext => TL.move hF rfl rfl TL.fin) ?_
          refine DR.stepV [_, _, _] rfl [(46, _, some 0), (47, _, some 1)] rfl rfl ⟨⟨rfl, rfl, rfl⟩, ⟨rfl, rfl, rfl⟩, trivial⟩ (fun ext => TL.indexAddr hF rfl rfl ⟨_, rfl, rfl⟩ (by omega) (by omega) rfl TL.fin) ?_
          refine DR.stepV [_, _, _, _] rfl [(48, _, some 2)] rfl rfl ⟨⟨rfl, rfl, rfl⟩, trivial⟩ (fun ext => TL.load hF rfl (iseg_at (f := distS (EN U) n p) (n := n) (b := bf) (j := x) (by simp) (by omega)) rfl TL.fin) ?_
          refine DR.stepV [_, _, _, _, _] rfl [(5, _, none)] rfl rfl ⟨⟨rfl, by kernel_rfl⟩, trivial⟩ (fun ext => TL.load hF rfl (At.own' (i := 5) rfl rfl) rfl TL.fin) ?_
          refine DR.stepV [_, _, _, _, _, _] rfl [(7, _, none)] rfl rfl ⟨⟨rfl, by kernel_rfl⟩, trivial⟩ (fun ext => TL.load hF rfl (At.own' (i := 4) rfl rfl) rfl TL.fin) ?_
          refine DR.stepV [_, _, _, _, _, _, _] rfl [(50, _, some 4), (51, _, some 5)] rfl rfl ⟨⟨rfl, rfl, rfl⟩, ⟨rfl, rfl, rfl⟩, trivial⟩ (fun ext => TL.indexAddr hF rfl rfl ⟨_, rfl, rfl⟩ (by omega) (by omega) rfl TL.fin) ?_
          refine DR.stepV [_, _, _, _, _, _, _, _] rfl [(52, _, some 6)] rfl rfl ⟨⟨rfl, rfl, rfl⟩, trivial⟩ (fun ext => TL.load hF rfl (iseg_at (f := distS (EN U) n p) (n := n) (b := bf) (j := s.r) (by simp) (by omega)) rfl TL.fin) ?_
          refine DR.stepV [_, _, _, _, _, _, _, _, _] rfl [(53, _, some 7)] rfl rfl ⟨⟨rfl, rfl, rfl⟩, trivial⟩ (fun ext => TL.sub hF rfl rfl (by omega) (by omega) rfl TL.fin) ?_
          refine DR.done [(54, _), (53, _), (52, _), (51, _), (50, _), (49, _), (48, _), (47, _), (46, _)] [_] mixed (by kernel_rfl) (by kernel_rfl) (by kernel_rfl) rfl rfl ?_
          refine TL.bin hF rfl rfl rfl rfl ?_
          refine TL.nil ?_
          refine TQ.then_n ?_
          first | refine T.cond_d rfl (fun ht55 => ?_) (fun ht55 => ?_) | refine T.cond _ rfl (fun ht55 => ?_) (fun ht55 => ?_)
          · refine T.seq ?_
            refine T.region ?_
            refine TL.move hF rfl rfl ?_
            refine TL.storeI hF 4 rfl rfl rfl rfl (by simp) ?_
            refine TL.nil ?_
            refine TQ.then_n ?_
            refine T.exit ?_
            refine TQ.block_o rfl ?_
            have hns : nextS (EN U) n (distS (EN U) n p) s.r = x := nextS_is hx2.1 ⟨ht55, hx2.2⟩ (fun b hb hc => hno b (take_sorted (succs_sorted U n s.r) hil (by simp only [succs, List.mem_filter, List.mem_range]; exact ⟨by omega, hc.2⟩) (by rw [hxv]; exact hb)) hc.1)
            exact TQ.rq_x ([(c5, .cells #[fnV 60] 72 (0, 0))] :: [(c4, .cells #[.int .i64 (s.r : Int)] 3 (0, 0))] :: [(c3, .cells #[ptr bw] 59 (0, 0))] :: seg' :: [(s.br, .cells #[.int .i64 ((x : Nat) : Int)] 3 (0, 0))] :: [(b5, .cells #[.slice (some ⟨bf, 0, none⟩) n n] 23 (0, 0))] :: iseg bf n (distS (EN U) n p) :: [(b3, .cells #[.int .i64 (p : Int), .int .i64 (q : Int)] 76 (0, 0))] :: (marksH s.ms ++ η)) rfl ⟨rfl, by rw [hns], by rw [hns]; exact hx2.1, by rw [hns]; exact ht55⟩
          · refine T.skip ?_
            refine TQ.block_n ?_
            exact TQ.rq_n _ rfl ⟨rfl, fun y hy => by
              rw [List.take_succ_eq_append_getElem hil, hxv] at hy
              rcases List.mem_append.1 hy with h | h
              · exact hno y h
              · have : y = x := by simpa using h
                subst this; exact ht55⟩
        · rintro mk _ ⟨rfl, hno⟩
          exfalso
          obtain ⟨y, hy, hey, hdy⟩ := hD.dn s.r hr (by omega)
          refine hno y ?_ hdy
          rw [List.length_map]
          show y ∈ (succs U n s.r).take (succs U n s.r).length
          rw [List.take_length]
          simp only [succs, List.mem_filter, List.mem_range]; exact ⟨hy, hey⟩
          --stop
        · rintro mk c _ ⟨rfl, rfl, hxn, hxd⟩
          generalize hxv : nextS (EN U) n (distS (EN U) n p) s.r = x at hxn hxd
          refine T.exit ?_
          refine TQ.block_x ?_
          refine TQ.block_n ?_
          refine TQ.then_n ?_
          refine T.seq ?_
          refine T.region ?_
          refine TL.load hF rfl (At.own' (i := 5) rfl rfl) rfl ?_
          refine TL.nil ?_
          refine TQ.then_n ?_
          refine T.region ?_
          refine TL.alloc hF rfl (fun b7 => ?_)
          first | refine TL.storeI hF 0 rfl rfl rfl rfl (by first | decide | simp) ?_ | refine TL.storeI hF 1 rfl rfl rfl rfl (by first | decide | simp) ?_ | refine TL.storeI hF 2 rfl rfl rfl rfl (by first | decide | simp) ?_ | refine TL.storeI hF 3 rfl rfl rfl rfl (by first | decide | simp) ?_
          refine TL.nil ?_
          refine TQ.hsub ([(b7, .cells #[.int .i64 (x : Int)] 3 (0, 0))] :: [(mk, .deferred (some []))] :: seg' :: [(b5, .cells #[.slice (some ⟨bf, 0, none⟩) n n] 23 (0, 0))] :: iseg bf n (distS (EN U) n p) :: [(b3, .cells #[.int .i64 (p : Int), .int .i64 (q : Int)] 76 (0, 0))] :: (marksH s.ms ++ η)) (List.Sublist.cons_cons _ (List.Sublist.cons_cons _ (List.Sublist.cons _ (List.Sublist.cons _ (List.Sublist.cons _ (List.Sublist.cons_cons _ (List.sublist_cons_self _ _))))))) ?_
          refine TQ.hperm (seg' :: [(b7, .cells #[.int .i64 ((x : Nat) : Int)] 3 (0, 0))] :: [(b5, .cells #[.slice (some ⟨bf, 0, none⟩) n n] 23 (0, 0))] :: iseg bf n (distS (EN U) n p) :: [(b3, .cells #[.int .i64 (p : Int), .int .i64 (q : Int)] 76 (0, 0))] :: (marksH (mk :: s.ms) ++ η)) ((List.perm_middle (l₁ := [_, _, _, _, _])).trans (List.perm_middle (l₁ := [_, _]))) ?_
          have e1 : (s.l ++ [s.r]).length = s.l.length + 1 := by simp
          exact TQ.roundD ⟨x, k', s.l ++ [s.r], a', cap', seg', b7, mk :: s.ms⟩ ⟨hxn, by simp only; rw [hxd]; omega, by simp only [e1]; omega, by simp only; rw [hcand, hk', wayS, hxv]; simp, by simpa using ho'⟩ (by simp only; omega) ⟨rfl, rfl, rfl, congrArg (fun z => some (Value.slice a' z cap')) e1.symm, rfl, trivial⟩ rfl rfl
      · refine T.exit ?_
        refine TQ.then_x ?_
        refine TQ.then_x ?_
        refine TQ.block_x ?_
        refine TQ.then_n ?_
        refine T.seq ?_
        refine T.region ?_
        refine TL.move hF rfl rfl ?_
        refine TL.assign hF rfl rfl ?_
        refine TL.nil ?_
        refine TQ.then_n ?_
        refine T.ret ?_
        have hrp : s.r = p := by have h : ¬ (s.r : Int) ≠ p := ht35; omega
        have hk0 : s.k = 0 := by have h := hD.z; rw [← hrp] at h; rw [← hrp, h] at hdk; omega
        have hr : roundS (EN U) n p q = s.l := by unfold roundS; rw [if_pos hd0, hcand, hk0]; simp [wayS]
        refine TQ.hsub (s.lg :: (marksH s.ms ++ η)) (List.Sublist.cons_cons _ (List.Sublist.cons _ (List.Sublist.cons _ (List.Sublist.cons _ (List.sublist_cons_self _ _))))) ?_
        refine TQ.hperm (marksH s.ms ++ s.lg :: η) List.perm_middle ?_
        refine TQ.marks (.inl rfl) ?_ s.ms
        refine TQ.retL0 [4] _ rfl rfl rfl ?_
        rw [hr]
        exact ⟨_, _, _, rfl, rfl, ho⟩
end Go.Proofs.Ytdehpaikapbckaa
