/- What the program marks along uses. -/
import Derived.Test.YtdehpaikapbckaaLook
namespace Go.Proofs.Ytdehpaikapbckaa
open Go.Sl
variable {S : Nat → Prop} {w0 : World} {η : Heap}
abbrev isseg (b : Nat) (A : Nat → Bool) : Seg := [(b, .cells (rowC 48 A).toArray 89 (0, 0))]
def LookC (b2 b4 b5 b6 bw : Nat) (n : Int) (U : Int → Int → Bool → Bool) (m : List ((Int × Int) × Bool)) (η : Heap) : Prop :=
  [(b2, Obj.cells #[ptr bw] 59 (0, 0))] ∈ η ∧ [(b5, Obj.cells #[fnV 60] 72 (0, 0))] ∈ η ∧ [(b6, Obj.cells #[.func (.func 69) #[] #[ptr b2, ptr b5, ptr b4, ptr b6]] 88 (0, 0))] ∈ η ∧ Web η bw n U m
theorem LookC.up {b2 b4 b5 b6 bw : Nat} {n : Int} {U : Int → Int → Bool → Bool} {m : List ((Int × Int) × Bool)} {η' : Heap} (h : LookC b2 b4 b5 b6 bw n U m η) (hs : ∀ s ∈ η, s ∈ η') : LookC b2 b4 b5 b6 bw n U m η' := ⟨hs _ h.1, hs _ h.2.1, hs _ h.2.2.1, h.2.2.2.up hs⟩
abbrev EN (U : Int → Int → Bool → Bool) (a b : Nat) : Bool := U a b false
theorem isseg_set {b j : Nat} {A B : Nat → Bool} {r : Heap} (h : ∀ i, i < 48 → B i = if i = j then true else A i) : [(b, Obj.cells ((rowC 48 A).toArray.setIfInBounds j (.bool true)) 89 (0, 0))] :: r = isseg b B :: r := by rw [rowC_set h]
theorem isseg_at {b j : Nat} {A : Nat → Bool} (h : isseg b A ∈ η) (hj : j < 48) : At S w0 η ⟨b, 0 + j * 1, none⟩ (.bool (A j)) := by
  rw [Nat.mul_one]; exact own_listM h j _ (rowC_get hj)
def succs (U : Int → Int → Bool → Bool) (n r : Nat) : List Nat := (List.range n).filter fun s : Nat => U r s false

set_option maxHeartbeats 2000000 in
theorem look_fn {b2 b4 b5 b6 bw n : Nat} {U : Int → Int → Bool → Bool} {m : List ((Int × Int) × Bool)} (hn : n ≤ 48) : ∀ (k : Nat) (A : Nat → Bool) (r : Nat) (η : Heap), unm n A ≤ k → r < n → LookC b2 b4 b5 b6 bw n U m η →
    Rt Try.prog 69 [.int .i64 (r : Int), ptr b2, ptr b5, ptr b4, ptr b6].toArray S w0 (isseg b4 A :: η) (fun _ η' => ∃ A', η' = isseg b4 A' :: η ∧ LookOk (EN U) n r A A') := by
  intro k
  induction k using Nat.strongRecOn with
  | ind k ih =>
  intro A r η hu hr hc
  have hF := open_wide
  refine Rt.ofL (fn := Try.f69) Try.func69 rfl rfl ?_
  refine T.seq ?_
  refine T.region ?_
  refine TL.load hF rfl (own_mem (List.mem_cons_of_mem _ hc.1) rfl) rfl ?_
  refine TL.move hF rfl rfl ?_
  refine TL.loadA hF [fnV 60] rfl rfl (own_listM (List.mem_cons_of_mem _ hc.2.1)) rfl ?_
  refine TL.call hF (from_fn (ptr bw) rfl r 60) rfl rfl ?_
  rintro _ _ ⟨c3, c4, c5, rfl, rfl⟩
  refine TL.nil ?_
  refine TQ.then_n ?_
  refine T.block ?_
  refine T.rangeFunc (fst := []) (cap := [ptr c3, ptr c5, ptr c4]) rfl (from_iter (S := S) (w0 := w0) (b3 := c3) (b4 := c4) (b5 := c5) (bw := bw) (r := r) (g := 60) (n := n) (U := U) (m := m) (by omega) (kind_any U)) (by
      intro e he; obtain ⟨s, _, rfl⟩ := List.mem_map.1 he; rfl) (by simp) (fun i η1 => ∃ A1, η1 = [(c5, .cells #[fnV 60] 72 (0, 0))] :: [(c4, .cells #[.int .i64 (r : Int)] 3 (0, 0))] :: [(c3, .cells #[ptr bw] 59 (0, 0))] :: isseg b4 A1 :: η ∧ StageOk (EN U) n r A A1 ∧ ∀ t ∈ (succs U n r).take i, A1 t = true) (fun _ _ => False) ⟨A, rfl, StageOk.start _ _ _ _, by simp⟩ ?_ ?_ ?_ ?_
  · rintro i _ tl ⟨A1, rfl, _⟩
    exact ⟨by simp, by simp, by simp, hc.2.2.2.up (fun x hx => by simp [hx])⟩
  · rintro l tl tl' i e _ hie ⟨A1, rfl, hst, hdi⟩
    have hF := open_round l
    have hil : i < (succs U n r).length := by have := (List.getElem?_eq_some_iff.1 hie).1; simpa [succs] using this
    have hee : e = [.int .i64 (((succs U n r)[i] : Nat) : Int)] := by
      have := (List.getElem?_eq_some_iff.1 hie).2; rw [← this]; simp [succs]
    subst hee
    have hsi : (succs U n r)[i] ∈ succs U n r := List.getElem_mem _
    generalize hsv : (succs U n r)[i] = s at hsi ⊢
    have hs2 : s < n ∧ U r s false = true := by simpa [succs] using hsi
    have htk : (succs U n r).take (i + 1) = (succs U n r).take i ++ [s] := by rw [List.take_succ_eq_append_getElem hil, hsv]
    refine T.region ?_
    refine TL.assign hF rfl rfl ?_
    refine TL.nil ?_
    refine TQ.swapT _ rfl ?_
    refine T.block ?_
    refine T.seq ?_
    refine T.region ?_
    refine TL.move hF rfl rfl ?_
    refine TL.indexAddrA hF rfl rfl (by omega) (by have := hs2.1; omega) rfl ?_
    refine TL.load hF rfl (isseg_at (b := b4) (A := A1) (j := s) (by simp) (by have := hs2.1; omega)) rfl ?_
    refine TL.not hF rfl rfl ?_
    refine TL.nil ?_
    refine TQ.then_n ?_
    refine T.cond _ rfl (fun ht15 => ?_) (fun ht15 => ?_)
    · refine T.seq ?_
      refine T.region ?_
      refine TL.move hF rfl rfl ?_
      refine TL.indexAddrA hF rfl rfl (by omega) (by have := hs2.1; omega) rfl ?_
      refine TL.storeI hF 3 rfl rfl rfl rfl (by have := hs2.1; simp [rowC_len]; omega) ?_
      refine TL.nil ?_
      refine TQ.then_n ?_
      refine T.region ?_
      refine TL.load hF rfl (own_mem (cs := #[.func (.func 69) #[] #[ptr b2, ptr b5, ptr b4, ptr b6]]) (e := 88) (fz := (0, 0)) (by simp [hc.2.2.1]) rfl) rfl ?_
      refine TL.move hF rfl rfl ?_
      have hA1 : A1 s = false := by simpa using ht15
      have hmk : unm n (markA A1 s) < k := Nat.lt_of_lt_of_le (unm_mark hs2.1 hA1) (Nat.le_trans (unm_mono hst.mono) hu)
      refine TL.hperm (isseg b4 (markA A1 s) :: ([(c5, .cells #[fnV 60] 72 (0, 0))] :: [(c4, .cells #[.int .i64 (r : Int)] 3 (0, 0))] :: [(c3, .cells #[ptr bw] 59 (0, 0))] :: (η ++ tl'))) ?_ ?_
      · refine List.Perm.trans (List.perm_middle (l₁ := ([[(c5, Obj.cells #[fnV 60] 72 (0, 0))], [(c4, Obj.cells #[.int .i64 (r : Int)] 3 (0, 0))], [(c3, Obj.cells #[ptr bw] 59 (0, 0))]] : Heap))).symm (List.Perm.of_eq ?_)
        refine congrArg (fun x : Heap => [(c5, .cells #[fnV 60] 72 (0, 0))] :: [(c4, .cells #[.int .i64 (r : Int)] 3 (0, 0))] :: [(c3, .cells #[ptr bw] 59 (0, 0))] :: x) (isseg_set (j := 0 + (s : Int).toNat * 1) (r := η ++ tl') ?_).symm
        intro t _
        simp [markA]
      refine TL.call hF (ih _ hmk (markA A1 s) s _ (Nat.le_refl _) hs2.1 (hc.up (fun x hx => by simp [hx]))) rfl rfl ?_
      rintro _ _ ⟨A2, rfl, hlk⟩
      refine TL.nil ?_
      refine TQ.block_n ?_
      obtain ⟨h1, h2, h3⟩ := hst.step hs2.1 hs2.2 hA1 hlk
      refine TQ.hperm (([(c5, .cells #[fnV 60] 72 (0, 0))] :: [(c4, .cells #[.int .i64 (r : Int)] 3 (0, 0))] :: [(c3, .cells #[ptr bw] 59 (0, 0))] :: isseg b4 A2 :: η) ++ tl') ?_ ?_
      · exact List.perm_middle (l₁ := [_, _, _])
      exact TQ.rq_n _ rfl ⟨A2, rfl, h1, fun t ht => by
        rw [htk] at ht
        rcases List.mem_append.1 ht with h | h
        · exact h2 t (hdi t h)
        · have : t = s := by simpa using h
          subst this; exact h3⟩
    · refine T.skip ?_
      refine TQ.block_n ?_
      have hA1 : A1 s = true := by simpa using ht15
      exact TQ.rq_n _ rfl ⟨A1, rfl, hst, fun t ht => by
        rw [htk] at ht
        rcases List.mem_append.1 ht with h | h
        · exact hdi t h
        · have : t = s := by simpa using h
          subst this; exact hA1⟩
  · rintro mk _ ⟨A1, rfl, hst, hdi⟩
    refine TQ.block_n ?_
    refine TQ.normL ?_
    refine TQ.mark (i := 0) (.inl rfl) rfl ?_
    refine TQ.hsub (isseg b4 A1 :: η) (List.Sublist.cons _ (List.Sublist.cons _ (List.Sublist.cons _ (List.sublist_cons_self _ _)))) ?_
    refine TQ.retL0 [] [] rfl rfl rfl ⟨A1, rfl, hst, fun t ht he => hdi t ?_⟩
    rw [List.length_map, ← succs, List.take_length]
    simp [succs, ht, he]
  · rintro _ _ _ h; exact h.elim
end Go.Proofs.Ytdehpaikapbckaa
