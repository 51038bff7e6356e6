/- What changes reach: the library's searches, and lists of what is yielded. -/
import Derived.Test.YtdehpaikapbckaaW18
import Derived.Test.YtdehpaikapbckaaBase11
namespace Go.Proofs.Ytdehpaikapbckaa
open Go.Sl
variable {S : Nat → Prop} {w0 : World} {η : Heap}
theorem whereA_ge {n : Int} : ∀ {xs : List Int} {i : Nat}, (0 ≤ whereA n xs i) ↔ n ∈ xs
  | [], i => by simp [whereA]
  | x :: xs, i => by
    unfold whereA
    by_cases h : x = n
    · subst h; simp
    · rw [if_neg h, whereA_ge (xs := xs)]; simp [Ne.symm h]
def whereP (p : Int → Bool) : List Int → Nat → Int
  | [], _ => -1
  | x :: xs, i => if p x = true then i else whereP p xs (i + 1)
theorem whereP_ge {p : Int → Bool} : ∀ {xs : List Int} {i : Nat}, (0 ≤ whereP p xs i) ↔ xs.any p = true
  | [], i => by simp [whereP]
  | x :: xs, i => by
    unfold whereP
    by_cases h : p x = true
    · rw [if_pos h]; simp [h]
    · rw [if_neg h, whereP_ge (xs := xs)]; simp [h]

set_option maxHeartbeats 2000000 in
theorem Index_fn {a : Option Addr} {xs : List Int} {c : Nat} (n : Int) (hx : Row S w0 η a (ints xs)) (hl : xs.length < 2 ^ 63) :
    Rt Try.prog 65 [.slice a xs.length c, .int .i64 n].toArray S w0 η (fun v η' => v = .int .i64 (whereA n xs 0) ∧ η' = η) := by
  have hF := open_wide
  refine Rt.of (fn := Try.f65) Try.func65 rfl rfl ?_
  refine T.seq ?_
  refine T.region ?_
  refine TL.assign hF rfl rfl ?_
  refine TL.nil ?_
  refine TQ.then_n ?_
  refine T.seq ?_
  refine T.seq ?_
  refine T.region ?_
  refine TL.move hF rfl rfl ?_
  refine TL.len hF rfl rfl ?_
  refine TL.move hF rfl rfl ?_
  refine TL.nil ?_
  refine TQ.then_n ?_
  refine T.block ?_
  refine T.loop (ι := Nat) (fun k => k ≤ xs.length ∧ whereA n xs 0 = whereA n (xs.drop k) k) (fun k => [(0, .slice a xs.length c), (1, .int .i64 n), (7, .int .i64 (xs.length : Int)), (8, .int .i64 (k : Int))]) (fun _ => η) (fun k => xs.length - k) 0 ⟨Nat.zero_le _, by simp⟩ ⟨rfl, rfl, rfl, rfl, trivial⟩ rfl ?_
  rintro k ⟨hk, hno⟩
  refine T.seq ?_
  refine T.region ?_
  refine TL.bin hF rfl rfl rfl rfl ?_
  refine TL.nil ?_
  refine TQ.then_n ?_
  refine T.seq ?_
  first | refine T.cond_d rfl (fun ht9 => ?_) (fun ht9 => ?_) | refine T.cond _ rfl (fun ht9 => ?_) (fun ht9 => ?_)
  · refine T.skip ?_
    refine TQ.then_n ?_
    refine T.seq ?_
    refine T.block ?_
    refine T.seq ?_
    refine T.region ?_
    refine TL.move hF rfl rfl ?_
    refine TL.assign hF rfl rfl ?_
    refine TL.nil ?_
    refine TQ.then_n ?_
    refine T.seq ?_
    refine T.region ?_
    refine TL.move hF rfl rfl ?_
    refine TL.move hF rfl rfl ?_
    refine TL.move hF rfl rfl ?_
    refine TL.indexAddr hF rfl rfl (hx.adi (i := k) (by simp; omega)) (by omega) (by omega) rfl ?_
    refine TL.load hF rfl (hx.int (i := k) (by omega)) rfl ?_
    refine TL.bin hF rfl rfl rfl rfl ?_
    refine TL.nil ?_
    refine TQ.then_n ?_
    first | refine T.cond_d rfl (fun ht16 => ?_) (fun ht16 => ?_) | refine T.cond _ rfl (fun ht16 => ?_) (fun ht16 => ?_)
    · refine T.seq ?_
      refine T.region ?_
      refine TL.move hF rfl rfl ?_
      refine TL.assign hF rfl rfl ?_
      refine TL.nil ?_
      refine TQ.then_n ?_
      refine T.ret ?_
      refine TQ.block_r ?_
      refine TQ.then_r ?_
      refine TQ.then_r ?_
      refine TQ.block_r ?_
      refine TQ.then_r ?_
      refine TQ.rets [4] _ rfl rfl rfl ?_
      exact ⟨by rw [hno, drop_step (by omega), whereA, if_pos ht16.symm]; rfl, rfl⟩
    · refine T.skip ?_
      refine TQ.block_n ?_
      refine TQ.then_n ?_
      refine T.region ?_
      refine TL.add hF rfl rfl (by omega) (by omega) rfl ?_
      refine TL.move hF rfl rfl ?_
      refine TL.nil ?_
      refine TQ.round (k + 1) ⟨by omega, by rw [hno, drop_step (by omega), whereA, if_neg (fun h => ht16 h.symm)]⟩ (by omega) ⟨rfl, rfl, rfl, rfl, trivial⟩ rfl
  · refine T.exit ?_
    refine TQ.then_x ?_
    refine TQ.then_x ?_
    refine TQ.block_x ?_
    refine TQ.then_n ?_
    refine T.seq ?_
    refine T.region ?_
    refine TL.assign hF rfl rfl ?_
    refine TL.nil ?_
    refine TQ.then_n ?_
    refine T.ret ?_
    refine TQ.rets [4] _ rfl rfl rfl ?_
    exact ⟨by rw [hno, List.drop_of_length_le (by omega)]; rfl, rfl⟩
set_option maxHeartbeats 2000000 in
theorem Contains_fn {a : Option Addr} {xs : List Int} {c : Nat} (n : Int) (hx : Row S w0 η a (ints xs)) (hl : xs.length < 2 ^ 63) :
    Rt Try.prog 50 [.slice a xs.length c, .int .i64 n].toArray S w0 η (fun v η' => v = .bool (decide (n ∈ xs)) ∧ η' = η) := by
  have hF := open_wide
  refine Rt.of (fn := Try.f50) Try.func50 rfl rfl ?_
  refine T.seq ?_
  refine T.region ?_
  refine TL.assign hF rfl rfl ?_
  refine TL.nil ?_
  refine TQ.then_n ?_
  refine T.seq ?_
  refine T.region ?_
  refine TL.move hF rfl rfl ?_
  refine TL.move hF rfl rfl ?_
  refine TL.callV hF (Index_fn n hx hl) rfl rfl ?_
  refine TL.bin hF rfl rfl rfl rfl ?_
  refine TL.assign hF rfl rfl ?_
  refine TL.nil ?_
  refine TQ.then_n ?_
  refine T.ret ?_
  refine TQ.rets [4] _ rfl rfl rfl ?_
  exact ⟨congrArg Value.bool (by rw [Bool.eq_iff_iff]; simp only [decide_eq_true_eq]; exact whereA_ge), rfl⟩
set_option maxHeartbeats 2000000 in
theorem IndexFunc_fn {a : Option Addr} {xs : List Int} {c lb rb : Nat} {p : Int → Bool} (hx : Row S w0 η a (ints xs)) (hl : xs.length < 2 ^ 63) (hp : ∀ x ∈ xs, Rt Try.prog 52 [.int .i64 x, ptr lb, ptr rb].toArray S w0 η (fun v η' => v = .bool (p x) ∧ η' = η)) :
    Rt Try.prog 66 [.slice a xs.length c, .func (.func 52) #[] #[ptr lb, ptr rb]].toArray S w0 η (fun v η' => v = .int .i64 (whereP p xs 0) ∧ η' = η) := by
  have hF := open_wide
  refine Rt.of (fn := Try.f66) Try.func66 rfl rfl ?_
  refine T.seq ?_
  refine T.region ?_
  refine TL.assign hF rfl rfl ?_
  refine TL.nil ?_
  refine TQ.then_n ?_
  refine T.seq ?_
  refine T.seq ?_
  refine T.region ?_
  refine TL.move hF rfl rfl ?_
  refine TL.len hF rfl rfl ?_
  refine TL.move hF rfl rfl ?_
  refine TL.nil ?_
  refine TQ.then_n ?_
  refine T.block ?_
  refine T.loop (ι := Nat) (fun k => k ≤ xs.length ∧ whereP p xs 0 = whereP p (xs.drop k) k) (fun k => [(0, .slice a xs.length c), (1, .func (.func 52) #[] #[ptr lb, ptr rb]), (7, .int .i64 (xs.length : Int)), (8, .int .i64 (k : Int))]) (fun _ => η) (fun k => xs.length - k) 0 ⟨Nat.zero_le _, by simp⟩ ⟨rfl, rfl, rfl, rfl, trivial⟩ rfl ?_
  rintro k ⟨hk, hno⟩
  refine T.seq ?_
  refine T.region ?_
  refine TL.bin hF rfl rfl rfl rfl ?_
  refine TL.nil ?_
  refine TQ.then_n ?_
  refine T.seq ?_
  first | refine T.cond_d rfl (fun ht9 => ?_) (fun ht9 => ?_) | refine T.cond _ rfl (fun ht9 => ?_) (fun ht9 => ?_)
  · refine T.skip ?_
    refine TQ.then_n ?_
    refine T.seq ?_
    refine T.block ?_
    refine T.seq ?_
    refine T.region ?_
    refine TL.move hF rfl rfl ?_
    refine TL.assign hF rfl rfl ?_
    refine TL.nil ?_
    refine TQ.then_n ?_
    refine T.seq ?_
    refine T.region ?_
    refine TL.move hF rfl rfl ?_
    refine TL.move hF rfl rfl ?_
    refine TL.move hF rfl rfl ?_
    refine TL.indexAddr hF rfl rfl (hx.adi (i := k) (by simp; omega)) (by omega) (by omega) rfl ?_
    refine TL.load hF rfl (hx.int (i := k) (by omega)) rfl ?_
    refine TL.callV hF (hp (xs[k]'(by omega)) (List.getElem_mem _)) rfl rfl ?_
    refine TL.nil ?_
    refine TQ.then_n ?_
    refine T.cond _ rfl (fun ht16 => ?_) (fun ht16 => ?_)
    · refine T.seq ?_
      refine T.region ?_
      refine TL.move hF rfl rfl ?_
      refine TL.assign hF rfl rfl ?_
      refine TL.nil ?_
      refine TQ.then_n ?_
      refine T.ret ?_
      refine TQ.block_r ?_
      refine TQ.then_r ?_
      refine TQ.then_r ?_
      refine TQ.block_r ?_
      refine TQ.then_r ?_
      refine TQ.rets [4] _ rfl rfl rfl ?_
      exact ⟨by rw [hno, drop_step (by omega), whereP, if_pos ht16]; rfl, rfl⟩
    · refine T.skip ?_
      refine TQ.block_n ?_
      refine TQ.then_n ?_
      refine T.region ?_
      refine TL.add hF rfl rfl (by omega) (by omega) rfl ?_
      refine TL.move hF rfl rfl ?_
      refine TL.nil ?_
      refine TQ.round (k + 1) ⟨by omega, by rw [hno, drop_step (by omega), whereP, if_neg (by simp [ht16])]⟩ (by omega) ⟨rfl, rfl, rfl, rfl, trivial⟩ rfl
  · refine T.exit ?_
    refine TQ.then_x ?_
    refine TQ.then_x ?_
    refine TQ.block_x ?_
    refine TQ.then_n ?_
    refine T.seq ?_
    refine T.region ?_
    refine TL.assign hF rfl rfl ?_
    refine TL.nil ?_
    refine TQ.then_n ?_
    refine T.ret ?_
    refine TQ.rets [4] _ rfl rfl rfl ?_
    exact ⟨by rw [hno, List.drop_of_length_le (by omega)]; rfl, rfl⟩
set_option maxHeartbeats 2000000 in
theorem ContainsFunc_fn {a : Option Addr} {xs : List Int} {c lb rb : Nat} {p : Int → Bool} (hx : Row S w0 η a (ints xs)) (hl : xs.length < 2 ^ 63) (hp : ∀ x ∈ xs, Rt Try.prog 52 [.int .i64 x, ptr lb, ptr rb].toArray S w0 η (fun v η' => v = .bool (p x) ∧ η' = η)) :
    Rt Try.prog 51 [.slice a xs.length c, .func (.func 52) #[] #[ptr lb, ptr rb]].toArray S w0 η (fun v η' => v = .bool (xs.any p) ∧ η' = η) := by
  have hF := open_wide
  refine Rt.of (fn := Try.f51) Try.func51 rfl rfl ?_
  refine T.seq ?_
  refine T.region ?_
  refine TL.assign hF rfl rfl ?_
  refine TL.nil ?_
  refine TQ.then_n ?_
  refine T.seq ?_
  refine T.region ?_
  refine TL.move hF rfl rfl ?_
  refine TL.move hF rfl rfl ?_
  refine TL.callV hF (IndexFunc_fn hx hl hp) rfl rfl ?_
  refine TL.bin hF rfl rfl rfl rfl ?_
  refine TL.assign hF rfl rfl ?_
  refine TL.nil ?_
  refine TQ.then_n ?_
  refine T.ret ?_
  refine TQ.rets [4] _ rfl rfl rfl ?_
  exact ⟨congrArg Value.bool (by rw [Bool.eq_iff_iff]; simp only [decide_eq_true_eq]; exact whereP_ge), rfl⟩
set_option maxHeartbeats 2000000 in
theorem reachBit_fn {lb rb n r s : Nat} {E : Nat → Nat → Bool} (hn : n ≤ 48) (hr : r < n) (hs : s < n) (h1 : gseg lb (gC E n n) ∈ η) (h2 : [(rb, Obj.cells #[.int .i64 (r : Int)] 3 (0, 0))] ∈ η) :
    Rt Try.prog 52 [.int .i64 (s : Int), ptr lb, ptr rb].toArray S w0 η (fun v η' => v = .bool (fwM E n r s) ∧ η' = η) := by
  have hF := open_wide
  refine Rt.of (fn := Try.f52) Try.func52 rfl rfl ?_
  refine T.seq ?_
  refine T.region ?_
  refine TL.assign hF rfl rfl ?_
  refine TL.nil ?_
  refine TQ.then_n ?_
  refine T.seq ?_
  refine T.region ?_
  refine TL.load hF rfl (own_mem h2 rfl) rfl ?_
  refine TL.move hF rfl rfl ?_
  refine TL.indexAddrA hF rfl rfl (by omega) (by omega) rfl ?_
  refine TL.indexAddrA hF rfl rfl (by omega) (by omega) rfl ?_
  refine TL.load hF rfl (gseg_at (E := E) (n := n) (a := r) (k := s) h1 hn hr hs) rfl ?_
  refine TL.assign hF rfl rfl ?_
  refine TL.nil ?_
  refine TQ.then_n ?_
  refine T.ret ?_
  refine TQ.rets [4] _ rfl rfl rfl ?_
  exact ⟨rfl, rfl⟩
set_option maxHeartbeats 2000000 in
theorem listed_fn {g : Nat} [Ent Try.prog g] {cap : List Value} {L : List Nat} {Ctx : Heap → Prop} (hit : Iter Try.prog g [] cap (L.map fun s : Nat => [Value.int .i64 (s : Int)]) S w0 Ctx) (hctx : ∀ η', (∀ x ∈ η, x ∈ η') → Ctx η') (hL : L.length ≤ 1000) :
    Rt Try.prog 48 [.func (.func g) #[] cap.toArray].toArray S w0 η (fun v η' => ∃ a c seg, v = .slice a L.length c ∧ η' = seg :: η ∧ OSl 3 1 (.slice a L.length c) L.length (nats L) seg) := by
  have hF := open_wide
  refine Rt.ofL (fn := Try.f48) Try.func48 rfl rfl ?_
  refine T.seq ?_
  refine T.region ?_
  refine TL.alloc hF rfl (fun b2 => ?_)
  refine TL.nil ?_
  refine TQ.then_n ?_
  refine T.seq ?_
  refine T.seq ?_
  refine T.region ?_
  refine TL.move hF rfl rfl ?_
  refine TL.nil ?_
  refine TQ.then_n ?_
  refine T.block ?_
  refine T.hnil ?_
  refine T.rangeFunc (fst := []) (cap := cap) rfl hit (by
      intro e he; obtain ⟨s, _, rfl⟩ := List.mem_map.1 he; rfl) (by simp) (fun i η1 => ∃ a c seg, η1 = seg :: [(b2, .cells #[.slice a i c] 23 (0, 0))] :: η ∧ OSl 3 1 (.slice a i c) i (nats (L.take i)) seg) (fun _ _ => False) ⟨none, 0, [], rfl, OSl.nil 3 1⟩ ?_ ?_ ?_ ?_
  · rintro i _ tl ⟨a, c, seg, rfl, _⟩
    exact hctx _ (fun x hx => by simp [hx])
  · rintro l tl tl' i e _ hie ⟨a, c, seg, rfl, ho⟩
    have hF := open_round l
    have hil : i < L.length := by have := (List.getElem?_eq_some_iff.1 hie).1; simpa using this
    have hee : e = [.int .i64 ((L[i] : Nat) : Int)] := by
      have := (List.getElem?_eq_some_iff.1 hie).2; rw [← this]; simp
    subst hee
    refine T.region ?_
    refine TL.assign hF rfl rfl ?_
    refine TL.nil ?_
    refine TQ.swapT _ rfl ?_
    refine T.block ?_
    refine T.region ?_
    refine TL.load hF rfl (own_mem (cs := #[.slice a i c]) (e := 23) (fz := (0, 0)) (by simp) rfl) rfl ?_
    refine TL.move hF rfl rfl ?_
    refine TL.buildSlice hF rfl (cs := #[.int .i64 ((L[i] : Nat) : Int)]) (e := 3) (fun w => by kernel_rfl) rfl (fun b8 => ?_)
    refine TL.append hF 1 rfl rfl rfl ho (row_own (cs := [.int .i64 ((L[i] : Nat) : Int)]) (e := 3) (by simp)).src rfl rfl (by simp [Value.oneCell']) (by omega) (by omega) rfl (fun a' cap' seg' ho' => ?_)
    refine TL.storeI hF 2 rfl rfl rfl rfl (by simp) ?_
    refine TL.nil ?_
    refine TQ.block_n ?_
    refine TQ.pop ?_
    exact TQ.rq_n (seg' :: [(b2, .cells #[.slice a' (i + 1) cap'] 23 (0, 0))] :: η) rfl ⟨a', cap', seg', rfl, by
      have e : nats (L.take (i + 1)) = nats (L.take i) ++ [.int .i64 ((L[i] : Nat) : Int)] := by rw [List.take_succ_eq_append_getElem hil, nats, List.map_append]; rfl
      rw [e]; exact ho'⟩
  · rintro mk _ ⟨a, c, seg, rfl, ho⟩
    rw [List.length_map] at ho ⊢
    refine TQ.block_n ?_
    refine TQ.then_n ?_
    refine T.seq ?_
    refine T.region ?_
    refine TL.load hF rfl (own_mem (cs := #[.slice a L.length c]) (e := 23) (fz := (0, 0)) (by simp) rfl) rfl ?_
    refine TL.storeI hF 2 rfl rfl rfl rfl (by simp) ?_
    refine TL.nil ?_
    refine TQ.then_n ?_
    refine T.ret ?_
    refine TQ.mark (i := 0) (.inl rfl) rfl ?_
    rw [List.take_length] at ho
    refine TQ.retLC1 (x := .slice a L.length c) (seg :: η) rfl rfl (At.own' (i := 2) rfl rfl) (List.Sublist.cons _ (List.Sublist.cons_cons _ (List.sublist_cons_self _ _))) ⟨a, c, seg, rfl, rfl, ho⟩
  · rintro _ _ _ h; exact h.elim
end Go.Proofs.Ytdehpaikapbckaa
