/- The program's exported functions: blocks. -/
import Derived.Test.YtdehpaikapbckaaW16
namespace Go.Proofs.Ytdehpaikapbckaa
open Go.Sl
variable {S : Nat → Prop} {w0 : World} {η : Heap}
theorem stop24 : StopC Try.prog 24 25 := ⟨⟨Try.f24, _, _, _, _, _, _, _, _, _, Try.func24, rfl, rfl, rfl⟩⟩
theorem stop33 : StopC Try.prog 33 25 := ⟨⟨Try.f33, _, _, _, _, _, _, _, _, _, Try.func33, rfl, rfl, rfl⟩⟩
theorem stop43 : StopC Try.prog 43 25 := ⟨⟨Try.f43, _, _, _, _, _, _, _, _, _, Try.func43, rfl, rfl, rfl⟩⟩
theorem stop45 : StopC Try.prog 45 25 := ⟨⟨Try.f45, _, _, _, _, _, _, _, _, _, Try.func45, rfl, rfl, rfl⟩⟩
theorem OutL.up {η' : Heap} {a : Option Addr} {ls : List (List Nat)} (h : OutL S w0 η a ls) (hs : ∀ x ∈ η, x ∈ η') : OutL S w0 η' a ls := by
  obtain ⟨ps, h1, h2, h3⟩ := h
  exact ⟨ps, h1, h2.up hs, fun i a b => (h3 i a b).up hs⟩
abbrev UR (rs : List RuleD) (a b : Int) (dn : Bool) : Bool := uses a b dn rs
theorem usesA_in {rels : Int} {b : Int} : ∀ {xs : List AtomD}, atomsOk rels xs = true → usesA b false xs = true → inR b rels = true
  | [], _, h => by simp [usesA] at h
  | x :: xs, h1, h => by
    simp only [atomsOk, Bool.and_eq_true] at h1
    simp only [usesA, hit, Bool.or_eq_true, Bool.and_eq_true, decide_eq_true_eq] at h
    rcases h with ⟨h2, _⟩ | h
    · rw [← h2]; exact h1.1
    · exact usesA_in h1.2 h
theorem uses_in {rels a b : Int} : ∀ {rs : List RuleD}, errs rels rs = 0 → uses a b false rs = true → inR a rels = true ∧ inR b rels = true
  | [], _, h => by simp [uses] at h
  | r :: rs, he, h => by
    have hr := errs_ok he r List.mem_cons_self
    have he2 : errs rels rs = 0 := by unfold errs at he; rwa [if_pos hr] at he
    simp only [uses, Bool.or_eq_true, Bool.and_eq_true, decide_eq_true_eq] at h
    rcases h with ⟨h1, h2⟩ | h
    · have h3 : inR r.head rels = true ∧ atomsOk rels r.body = true := by
        unfold checkR at hr
        split at hr; · omega
        split at hr; · omega
        split at hr
        · rename_i h4 h5; exact ⟨by simpa using h4, h5⟩
        · omega
      rw [← h1]; exact ⟨h3.1, usesA_in h3.2 h2⟩
    · exact uses_in he2 h
theorem uok {n : Nat} {rs : List RuleD} (h : errs n rs = 0) : UOk (UR rs) n := ⟨fun a b h1 => uses_le h1, fun a b h1 => by
  have := uses_in h h1
  simpa [inR, Bool.and_eq_true] using this⟩

set_option maxHeartbeats 2000000 in
theorem Blocks_prog {p : Option Addr} {rs : List RuleD} {c : Nat} (rels : Int) (hr : Rules S w0 [] p rs) (hl : rs.length < 2 ^ 63) (hbl : ∀ r ∈ rs, r.body.length < 2 ^ 63) :
    Rt Try.prog 10 [.int .i64 rels, .slice p rs.length c].toArray S w0 η (fun v η' => ∃ a cap segs, v = .tuple #[.slice a (blocksS rels rs).1.length cap, .int .i64 (blocksS rels rs).2] ∧ η' = segs ++ η ∧ OutL S w0 segs a (blocksS rels rs).1) := by
  have hF := open_wide
  refine Rt.ofL (fn := Try.f10) Try.func10 rfl rfl ?_
  refine T.seq ?_
  refine T.region ?_
  refine TL.assign hF rfl rfl ?_
  refine TL.alloc hF rfl (fun b5 => ?_)
  refine TL.nil ?_
  refine TQ.then_n ?_
  refine T.seq ?_
  refine T.region ?_
  refine TL.makeFunc hF rfl rfl rfl ?_
  refine TL.defer hF rfl rfl ?_
  refine TL.nil ?_
  refine TQ.then_n ?_
  refine T.seq ?_
  refine T.region ?_
  refine TL.move hF rfl rfl ?_
  refine TL.move hF rfl rfl ?_
  refine TL.callE hF (opened_fn rels hr hl hbl) rfl rfl ?_ ?_
  · rintro _ _ ⟨hck, bw, bm, es, clock, m, rfl, rfl, hm, hw⟩
    obtain ⟨hk1, hk2, hk3, hk4⟩ := check_ok hck
    obtain ⟨n, rfl⟩ : ∃ n : Nat, rels = (n : Int) := ⟨rels.toNat, by omega⟩
    have hU := uok hk4
    have hweb : Web (wseg bw bm n :: [(bm, .map es clock)] :: [(b5, .cells #[.int .i64 0] 27 (0, 0))] :: η) bw n (UR rs) m := ⟨⟨bm, es, clock, by simp, by simp, hm⟩, hw⟩
    refine TL.assign hF rfl rfl ?_
    refine TL.nil ?_
    refine TQ.then_n ?_
    refine T.seq ?_
    refine T.region ?_
    refine TL.move hF rfl rfl ?_
    refine TL.callM hF (ordered_prog (n := n) (by omega) hweb hU) rfl rfl (fun ho v12 => ?_) (fun ho => ?_)
    · 
      refine TL.nil ?_
      refine TQ.then_n ?_
      refine T.seq ?_
      refine T.region ?_
      refine TL.move hF rfl rfl ?_
      refine TL.call hF (blocks_prog (n := n) (by omega) hweb hU) rfl rfl ?_
      rintro _ _ ⟨oa, ocap, osg, rfl, rfl, hO⟩
      refine TL.assign hF rfl rfl ?_
      refine TL.hsub (osg ++ [(b5, .cells #[.int .i64 0] 27 (0, 0))] :: η) (List.Sublist.append_left (List.Sublist.cons _ (List.sublist_cons_self _ _)) _) ?_
      refine TL.storeI hF osg.length rfl rfl (hp_at rfl) rfl (by simp) ?_
      rw [hp_set rfl]
      refine TL.nil ?_
      refine TQ.then_n ?_
      refine T.ret ?_
      have e : blocksS n rs = (orderS n (fwM (EU rs) n) n [], 0) := by unfold blocksS; rw [if_neg (by simpa using hck), if_pos (by rw [Int.toNat_natCast]; exact ho), Int.toNat_natCast]
      refine TQ.retL [4] _ stop24 (stopped_nil _) rfl rfl rfl (own_mem (cs := #[.int .i64 0]) (e := 27) (fz := (0, 0)) (by simp) rfl) ?_
      rw [e]
      exact ⟨oa, ocap, osg ++ [[(b5, .cells #[.int .i64 0] 27 (0, 0))]], rfl, by simp, hO.up upl⟩
    · skip
      refine TQ.then_p ?_
      refine TQ.hsub ([(b5, .cells #[.int .i64 0] 27 (0, 0))] :: η) (List.Sublist.cons _ (List.sublist_cons_self _ _)) ?_
      refine TQ.panL [4] [.slice none 0 0] stop24 (stopped_err 10) rfl rfl rfl (At.own' (i := 0) rfl rfl) ?_
      have e : blocksS n rs = ([], 10) := by unfold blocksS; rw [if_neg (by simpa using hck), if_neg (by rw [Int.toNat_natCast]; rw [show ordB n (ED rs) (fwM (EU rs) n) = false from ho]; simp)]
      rw [e]
      exact ⟨none, 0, [[(b5, .cells #[.int .i64 10] 27 (0, 0))]], rfl, rfl, Lists.none⟩
  · rintro _ _ ⟨hck, rfl, rfl⟩
    refine TQ.then_p ?_
    refine TQ.panL [4] [.slice none 0 0] stop24 (stopped_err _) rfl rfl rfl (At.own' (i := 0) rfl rfl) ?_
    have e : blocksS rels rs = ([], check rels rs) := by unfold blocksS; rw [if_pos hck]
    rw [e]
    exact ⟨none, 0, [[(b5, .cells #[.int .i64 (check rels rs)] 27 (0, 0))]], rfl, rfl, Lists.none⟩
end Go.Proofs.Ytdehpaikapbckaa
