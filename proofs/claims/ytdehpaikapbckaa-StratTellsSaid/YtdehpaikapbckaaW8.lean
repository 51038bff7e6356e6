/- The reference's levels, and what changes reach. -/
import Derived.Test.YtdehpaikapbckaaLev
namespace Go.Proofs.Ytdehpaikapbckaa
open Go.Sl
variable {S : Nat → Prop} {w0 : World} {η : Heap}
theorem OutL.item {a : Option Addr} {ls : List (List Nat)} (h : OutL S w0 η a ls) : ∃ f : Nat → Option Addr × Nat, (∀ i (hi : i < ls.length), At S w0 η (sAt a (i * 1)) (.slice (f i).1 ls[i].length (f i).2) ∧ Row S w0 η (f i).1 (nats ls[i])) ∧ (∀ i, i < ls.length → ∃ ad, a = some ad ∧ ad.spot = none) := by
  obtain ⟨f, h1, h2⟩ := Lists.item h
  refine ⟨f, fun i hi => ?_, fun i hi => h2 i (by simpa using hi)⟩
  have := h1 i (by simpa using hi)
  simp only [List.getElem_map, List.length_map] at this
  rw [nats_ints]; exact this
theorem _root_.Go.Sl.Row.nat {a : Option Addr} {l : List Nat} (h : Row S w0 η a (nats l)) {i : Nat} (hi : i < l.length) : At S w0 η (sAt a (i * 1)) (.int .i64 (l[i] : Nat)) := by rw [Nat.mul_one]; exact h.cell i _ (by simp [hi])
theorem _root_.Go.Sl.Row.nad {a : Option Addr} {l : List Nat} (h : Row S w0 η a (nats l)) {i : Nat} (hi : i < l.length) : ∃ ad, a = some ad ∧ ad.spot = none := h.adi (i := i) (by simpa using hi)

set_option maxHeartbeats 2000000 in
theorem Levels_fn {p : Option Addr} {rs : List RuleD} {c : Nat} (rels : Int) (hr : Rules S w0 [] p rs) (hl : rs.length < 2 ^ 63) :
    Rt Try.prog 15 [.int .i64 rels, .slice p rs.length c].toArray S w0 η (fun v η' => ∃ a cap segs, v = .tuple #[.slice a (levelsS rels rs).1.length cap, .int .i64 (levelsS rels rs).2] ∧ η' = segs ++ η ∧ Row S w0 segs a (ints (levelsS rels rs).1)) := by
  have hF := open_wide
  refine Rt.of (fn := Try.f15) Try.func15 rfl rfl ?_
  refine T.seq ?_
  refine T.region ?_
  refine TL.assign hF rfl rfl ?_
  refine TL.assign hF rfl rfl ?_
  refine TL.nil ?_
  refine TQ.then_n ?_
  refine T.seq ?_
  refine T.region ?_
  refine TL.move hF rfl rfl ?_
  refine TL.move hF rfl rfl ?_
  refine TL.call hF (Blocks_fn rels hr hl) rfl rfl ?_
  rintro _ _ ⟨ba, bc, osg, rfl, rfl, hO⟩
  refine TL.move hF rfl rfl ?_
  refine TL.extract hF rfl rfl rfl ?_
  refine TL.extract hF rfl rfl rfl ?_
  refine TL.assign hF rfl rfl ?_
  refine TL.assign hF rfl rfl ?_
  refine TL.nil ?_
  refine TQ.then_n ?_
  refine T.seq ?_
  refine T.seq ?_
  refine T.region ?_
  refine TL.move hF rfl rfl ?_
  refine TL.bin hF rfl rfl rfl rfl ?_
  refine TL.nil ?_
  refine TQ.then_n ?_
  first | refine T.cond_d rfl (fun ht22 => ?_) (fun ht22 => ?_) | refine T.cond _ rfl (fun ht22 => ?_) (fun ht22 => ?_)
  · refine T.seq ?_
    refine T.region ?_
    refine TL.move hF rfl rfl ?_
    refine TL.assign hF rfl rfl ?_
    refine TL.assign hF rfl rfl ?_
    refine TL.nil ?_
    refine TQ.then_n ?_
    refine T.ret ?_
    refine TQ.then_r ?_
    refine TQ.hsub η (List.sublist_append_right _ _) ?_
    refine TQ.rets [4, 5] _ rfl rfl rfl ?_
    have e : levelsS rels rs = ([], (blocksS rels rs).2) := by unfold levelsS; rw [if_pos ht22]
    rw [e]
    exact ⟨none, 0, [], rfl, rfl, ⟨fun h => by simp at h, fun i v h => by simp at h⟩⟩
  · refine T.skip ?_
    refine TQ.then_n ?_
    refine T.seq ?_
    refine T.region ?_
    refine TL.move hF rfl rfl ?_
    have hck : check rels rs = 0 := by
      apply Classical.byContradiction; intro h
      apply ht22; simp [blocksS, h]
    obtain ⟨hk1, hk2, hk3, hk4⟩ := check_ok hck
    obtain ⟨n, rfl⟩ : ∃ n : Nat, rels = (n : Int) := ⟨rels.toNat, by omega⟩
    have hb := errs_body hk4
    have hbl : ∀ l ∈ (blocksS n rs).1, ∀ x ∈ l, x < n := by
      intro l hl x hx
      unfold blocksS at hl
      rw [if_neg (by simpa using hck)] at hl
      split at hl
      · obtain ⟨a, rfl⟩ := orderS_mem _ _ l hl
        simpa using (mem_blockS.1 hx).1
      · simp at hl
    have hbll : (blocksS n rs).1.length ≤ n ∧ ∀ l ∈ (blocksS n rs).1, l.length ≤ n := by
      unfold blocksS
      rw [if_neg (by simpa using hck)]
      split
      · refine ⟨by simpa using orderS_len (n := n) (M := fwM (EU rs) n) n [], fun l hl => ?_⟩
        obtain ⟨a, rfl⟩ := orderS_mem _ _ l hl
        simpa using blockS_len n (fwM (EU rs) n) a
      · simp
    have hlev : levelsS n rs = ((List.range n).map (levelsF (EU rs) (ED rs) n (blocksS n rs).1), 0) := by
      unfold levelsS; rw [if_neg (by simpa using ht22), Int.toNat_natCast]
    rw [hlev]
    generalize (blocksS n rs).1 = bls at hbl hbll hO ⊢
    obtain ⟨f, hf1, hf2⟩ := hO.item
    refine TL.makeSlice hF (k := n) rfl rfl rfl (by omega) (by omega) rfl (fun b25 => ?_)
    refine TL.assign hF rfl rfl ?_
    refine TL.nil ?_
    refine TQ.then_n ?_
    refine T.seq ?_
    refine T.seq ?_
    refine T.region ?_
    refine TL.assign hF rfl rfl ?_
    refine TL.nil ?_
    refine TQ.then_n ?_
    refine T.block ?_
    refine T.loop (ι := Nat) (fun i => i ≤ bls.length) (fun i => [(0, .int .i64 (n : Int)), (1, .slice p rs.length c), (6, .slice ba bls.length bc), (8, .slice (some ⟨b25, 0, none⟩) n n), (9, .int .i64 (i : Int))]) (fun i => iseg b25 n (levelsF (EU rs) (ED rs) n (bls.take i)) :: (osg ++ η)) (fun i => bls.length - i) 0 (Nat.zero_le _) ⟨rfl, rfl, rfl, rfl, rfl, trivial⟩ (by rw [intC_zero]; rfl) ?_
    rintro i hi
    have hLb := levelsF_le (E := EU rs) (D := ED rs) (n := n) (bls.take i)
    have htl : (bls.take i).length = i := by simp [hi]
    rw [htl] at hLb
    refine T.seq ?_
    refine T.seq ?_
    refine T.region ?_
    refine TL.move hF rfl rfl ?_
    refine TL.move hF rfl rfl ?_
    refine TL.len hF rfl rfl ?_
    refine TL.bin hF rfl rfl rfl rfl ?_
    refine TL.nil ?_
    refine TQ.then_n ?_
    first | refine T.cond_d rfl (fun ht29 => ?_) (fun ht29 => ?_) | refine T.cond _ rfl (fun ht29 => ?_) (fun ht29 => ?_)
    · refine T.skip ?_
      refine TQ.then_n ?_
      refine T.seq ?_
      refine T.block ?_
      refine T.seq ?_
      refine T.region ?_
      refine TL.assign hF rfl rfl ?_
      refine TL.nil ?_
      refine TQ.then_n ?_
      refine T.seq ?_
      refine T.seq ?_
      refine T.region ?_
      refine TL.assign hF rfl rfl ?_
      refine TL.nil ?_
      refine TQ.then_n ?_
      refine T.block ?_
      have hil : i < bls.length := by omega
      have hfi := hf1 i hil
      have hup : ∀ L, ∀ x ∈ osg, x ∈ iseg b25 n (L) :: (osg ++ η) := fun L x hx => List.mem_cons_of_mem _ (List.mem_append_left _ hx)
      have hol : (bls[i]'(by omega)).length ≤ n := hbll.2 _ (List.getElem_mem _)
      have hom : ∀ x ∈ (bls[i]'(by omega)), x < n := hbl _ (List.getElem_mem _)
      have hnb := fun xs => needB_le (E := EU rs) (D := ED rs) (n := n) (own := (bls[i]'(by omega))) (L := levelsF (EU rs) (ED rs) n (bls.take i)) (B := (i : Int)) (by omega) (fun b _ => hLb b) xs 0 (by omega)
      refine T.loop (ι := Nat) (fun k => k ≤ (bls[i]'(by omega)).length) (fun k => [(0, .int .i64 (n : Int)), (1, .slice p rs.length c), (6, .slice ba bls.length bc), (8, .slice (some ⟨b25, 0, none⟩) n n), (9, .int .i64 (i : Int)), (10, .int .i64 (needB (EU rs) (ED rs) n (bls[i]'(by omega)) (levelsF (EU rs) (ED rs) n (bls.take i)) ((bls[i]'(by omega)).take k))), (11, .int .i64 (k : Int))]) (fun k => iseg b25 n (levelsF (EU rs) (ED rs) n (bls.take i)) :: (osg ++ η)) (fun k => (bls[i]'(by omega)).length - k) 0 (Nat.zero_le _) ⟨rfl, rfl, rfl, rfl, rfl, rfl, rfl, trivial⟩ rfl ?_
      rintro k hk
      refine T.seq ?_
      refine T.seq ?_
      refine T.region ?_
      refine TL.move hF rfl rfl ?_
      refine TL.move hF rfl rfl ?_
      refine TL.move hF rfl rfl ?_
      refine TL.indexAddr hF rfl rfl (hf2 i hil) (by omega) (by omega) rfl ?_
      refine TL.load hF rfl (hfi.1.up (hup _)) rfl ?_
      refine TL.len hF rfl rfl ?_
      refine TL.bin hF rfl rfl rfl rfl ?_
      refine TL.nil ?_
      refine TQ.then_n ?_
      first | refine T.cond_d rfl (fun ht38 => ?_) (fun ht38 => ?_) | refine T.cond _ rfl (fun ht38 => ?_) (fun ht38 => ?_)
      · refine T.skip ?_
        refine TQ.then_n ?_
        refine T.seq ?_
        refine T.block ?_
        refine T.seq ?_
        refine T.region ?_
        refine TL.move hF rfl rfl ?_
        refine TL.move hF rfl rfl ?_
        refine TL.indexAddr hF rfl rfl (hf2 i hil) (by omega) (by omega) rfl ?_
        refine TL.load hF rfl (hfi.1.up (hup _)) rfl ?_
        refine TL.move hF rfl rfl ?_
        refine TL.indexAddr hF rfl rfl (hfi.2.nad (i := k) (by omega)) (by omega) (by omega) rfl ?_
        refine TL.load hF rfl ((hfi.2.nat (i := k) (by omega)).up (hup _)) rfl ?_
        refine TL.assign hF rfl rfl ?_
        refine TL.nil ?_
        refine TQ.then_n ?_
        refine T.seq ?_
        refine T.region ?_
        refine TL.assign hF rfl rfl ?_
        refine TL.nil ?_
        refine TQ.then_n ?_
        refine T.block ?_
        have hq : (bls[i]'(by omega))[k] < n := hom _ (List.getElem_mem _)
        have hna := fun j => needA_le (E := EU rs) (D := ED rs) (own := (bls[i]'(by omega))) (L := levelsF (EU rs) (ED rs) n (bls.take i)) (a := (bls[i]'(by omega))[k]) (m := needB (EU rs) (ED rs) n (bls[i]'(by omega)) (levelsF (EU rs) (ED rs) n (bls.take i)) ((bls[i]'(by omega)).take k)) (B := (i : Int)) (hnb _) j (fun b _ => hLb b)
        refine T.loop (ι := Nat) (fun j => j ≤ n) (fun j => [(0, .int .i64 (n : Int)), (1, .slice p rs.length c), (6, .slice ba bls.length bc), (8, .slice (some ⟨b25, 0, none⟩) n n), (9, .int .i64 (i : Int)), (10, .int .i64 (needA (EU rs) (ED rs) (bls[i]'(by omega)) (levelsF (EU rs) (ED rs) n (bls.take i)) ((bls[i]'(by omega))[k]) (needB (EU rs) (ED rs) n (bls[i]'(by omega)) (levelsF (EU rs) (ED rs) n (bls.take i)) ((bls[i]'(by omega)).take k)) j)), (11, .int .i64 (k : Int)), (12, .int .i64 (((bls[i]'(by omega))[k] : Nat) : Int)), (13, .int .i64 (j : Int))]) (fun j => iseg b25 n (levelsF (EU rs) (ED rs) n (bls.take i)) :: (osg ++ η)) (fun j => n - j) 0 (Nat.zero_le _) ⟨rfl, rfl, rfl, rfl, rfl, rfl, rfl, rfl, rfl, trivial⟩ rfl ?_
        rintro j hj
        have hLj := hLb j
        refine T.seq ?_
        refine T.seq ?_
        refine T.region ?_
        refine TL.move hF rfl rfl ?_
        refine TL.move hF rfl rfl ?_
        refine TL.bin hF rfl rfl rfl rfl ?_
        refine TL.nil ?_
        refine TQ.then_n ?_
        first | refine T.cond_d rfl (fun ht50 => ?_) (fun ht50 => ?_) | refine T.cond _ rfl (fun ht50 => ?_) (fun ht50 => ?_)
        · refine T.skip ?_
          refine TQ.then_n ?_
          refine T.seq ?_
          refine T.block ?_
          refine T.seq ?_
          refine T.seq ?_
          refine T.region ?_
          refine TL.move hF rfl rfl ?_
          refine TL.move hF rfl rfl ?_
          refine TL.indexAddr hF rfl rfl (hf2 i hil) (by omega) (by omega) rfl ?_
          refine TL.load hF rfl (hfi.1.up (hup _)) rfl ?_
          refine TL.move hF rfl rfl ?_
          refine TL.callV hF (hasN_fn j (hfi.2.up (hup _)) (by omega)) rfl rfl ?_
          refine TL.not hF rfl rfl ?_
          refine TL.move hF rfl rfl ?_
          refine TL.gb (t := 60) rfl (fun g16_60 => ?_) (fun g16_60 => ?_)
          · refine TL.on rfl rfl rfl g16_60 ?_
            refine TL.move hF rfl rfl ?_
            refine TL.on rfl rfl rfl g16_60 ?_
            refine TL.move hF rfl rfl ?_
            refine TL.on rfl rfl rfl g16_60 ?_
            refine TL.move hF rfl rfl ?_
            refine TL.on rfl rfl rfl g16_60 ?_
            refine TL.callV hF (Uses_fn ((bls[i]'(by omega))[k] : Nat) j false hr hl hb) rfl rfl ?_
            refine TL.pickT hF rfl g16_60 rfl rfl ?_
            refine TL.nil ?_
            refine TQ.then_n ?_
            refine T.cond _ rfl (fun ht65 => ?_) (fun ht65 => ?_)
            · refine T.region ?_
              refine TL.move hF rfl rfl ?_
              refine TL.move hF rfl rfl ?_
              refine TL.move hF rfl rfl ?_
              refine TL.indexAddr hF rfl rfl ⟨_, rfl, rfl⟩ (by omega) (by omega) rfl ?_
              refine TL.load hF rfl (iseg_at (f := levelsF (EU rs) (ED rs) n (bls.take i)) (n := n) (j := j) (by simp) (by omega)) rfl ?_
              refine TL.max2 hF rfl rfl rfl ?_
              refine TL.assign hF rfl rfl ?_
              refine TL.nil ?_
              refine TQ.then_n ?_
              refine T.seq ?_
              refine T.region ?_
              refine TL.move hF rfl rfl ?_
              refine TL.move hF rfl rfl ?_
              refine TL.move hF rfl rfl ?_
              refine TL.callV hF (Uses_fn ((bls[i]'(by omega))[k] : Nat) j true hr hl hb) rfl rfl ?_
              refine TL.nil ?_
              refine TQ.then_n ?_
              refine T.cond _ rfl (fun ht75 => ?_) (fun ht75 => ?_)
              · refine T.region ?_
                refine TL.move hF rfl rfl ?_
                refine TL.move hF rfl rfl ?_
                refine TL.move hF rfl rfl ?_
                refine TL.indexAddr hF rfl rfl ⟨_, rfl, rfl⟩ (by omega) (by omega) rfl ?_
                refine TL.load hF rfl (iseg_at (f := levelsF (EU rs) (ED rs) n (bls.take i)) (n := n) (j := j) (by simp) (by omega)) rfl ?_
                refine TL.add hF rfl rfl (by omega) (by omega) rfl ?_
                refine TL.max2 hF rfl rfl rfl ?_
                refine TL.assign hF rfl rfl ?_
                refine TL.nil ?_
                refine TQ.block_n ?_
                refine TQ.then_n ?_
                refine T.region ?_
                refine TL.move hF rfl rfl ?_
                refine TL.add hF rfl rfl (by omega) (by omega) rfl ?_
                refine TL.assign hF rfl rfl ?_
                refine TL.nil ?_
                refine TQ.round (j + 1) (by omega) (by omega) ⟨rfl, rfl, rfl, rfl, rfl, congrArg (fun z => some (Value.int .i64 z)) (by rw [needA_succ, needS]; simp_all), rfl, rfl, rfl, trivial⟩ rfl
              · refine T.skip ?_
                refine TQ.block_n ?_
                refine TQ.then_n ?_
                refine T.region ?_
                refine TL.move hF rfl rfl ?_
                refine TL.add hF rfl rfl (by omega) (by omega) rfl ?_
                refine TL.assign hF rfl rfl ?_
                refine TL.nil ?_
                refine TQ.round (j + 1) (by omega) (by omega) ⟨rfl, rfl, rfl, rfl, rfl, congrArg (fun z => some (Value.int .i64 z)) (by rw [needA_succ, needS]; simp_all), rfl, rfl, rfl, trivial⟩ rfl
            · refine T.skip ?_
              refine TQ.then_n ?_
              refine T.seq ?_
              refine T.region ?_
              refine TL.move hF rfl rfl ?_
              refine TL.move hF rfl rfl ?_
              refine TL.move hF rfl rfl ?_
              refine TL.callV hF (Uses_fn ((bls[i]'(by omega))[k] : Nat) j true hr hl hb) rfl rfl ?_
              refine TL.nil ?_
              refine TQ.then_n ?_
              refine T.cond _ rfl (fun ht75 => ?_) (fun ht75 => ?_)
              · refine T.region ?_
                refine TL.move hF rfl rfl ?_
                refine TL.move hF rfl rfl ?_
                refine TL.move hF rfl rfl ?_
                refine TL.indexAddr hF rfl rfl ⟨_, rfl, rfl⟩ (by omega) (by omega) rfl ?_
                refine TL.load hF rfl (iseg_at (f := levelsF (EU rs) (ED rs) n (bls.take i)) (n := n) (j := j) (by simp) (by omega)) rfl ?_
                refine TL.add hF rfl rfl (by omega) (by omega) rfl ?_
                refine TL.max2 hF rfl rfl rfl ?_
                refine TL.assign hF rfl rfl ?_
                refine TL.nil ?_
                refine TQ.block_n ?_
                refine TQ.then_n ?_
                refine T.region ?_
                refine TL.move hF rfl rfl ?_
                refine TL.add hF rfl rfl (by omega) (by omega) rfl ?_
                refine TL.assign hF rfl rfl ?_
                refine TL.nil ?_
                refine TQ.round (j + 1) (by omega) (by omega) ⟨rfl, rfl, rfl, rfl, rfl, congrArg (fun z => some (Value.int .i64 z)) (by rw [needA_succ, needS]; simp_all), rfl, rfl, rfl, trivial⟩ rfl
              · refine T.skip ?_
                refine TQ.block_n ?_
                refine TQ.then_n ?_
                refine T.region ?_
                refine TL.move hF rfl rfl ?_
                refine TL.add hF rfl rfl (by omega) (by omega) rfl ?_
                refine TL.assign hF rfl rfl ?_
                refine TL.nil ?_
                refine TQ.round (j + 1) (by omega) (by omega) ⟨rfl, rfl, rfl, rfl, rfl, congrArg (fun z => some (Value.int .i64 z)) (by rw [needA_succ, needS]; simp_all), rfl, rfl, rfl, trivial⟩ rfl
          · refine TL.off hF rfl rfl rfl g16_60 rfl ?_
            refine TL.off hF rfl rfl rfl g16_60 rfl ?_
            refine TL.off hF rfl rfl rfl g16_60 rfl ?_
            refine TL.off hF rfl rfl rfl g16_60 rfl ?_
            refine TL.pickF hF rfl g16_60 rfl rfl ?_
            refine TL.nil ?_
            refine TQ.then_n ?_
            refine T.cond_f rfl rfl ?_
            refine T.skip ?_
            refine TQ.then_n ?_
            refine T.seq ?_
            refine T.region ?_
            refine TL.move hF rfl rfl ?_
            refine TL.move hF rfl rfl ?_
            refine TL.move hF rfl rfl ?_
            refine TL.callV hF (Uses_fn ((bls[i]'(by omega))[k] : Nat) j true hr hl hb) rfl rfl ?_
            refine TL.nil ?_
            refine TQ.then_n ?_
            refine T.cond _ rfl (fun ht75 => ?_) (fun ht75 => ?_)
            · refine T.region ?_
              refine TL.move hF rfl rfl ?_
              refine TL.move hF rfl rfl ?_
              refine TL.move hF rfl rfl ?_
              refine TL.indexAddr hF rfl rfl ⟨_, rfl, rfl⟩ (by omega) (by omega) rfl ?_
              refine TL.load hF rfl (iseg_at (f := levelsF (EU rs) (ED rs) n (bls.take i)) (n := n) (j := j) (by simp) (by omega)) rfl ?_
              refine TL.add hF rfl rfl (by omega) (by omega) rfl ?_
              refine TL.max2 hF rfl rfl rfl ?_
              refine TL.assign hF rfl rfl ?_
              refine TL.nil ?_
              refine TQ.block_n ?_
              refine TQ.then_n ?_
              refine T.region ?_
              refine TL.move hF rfl rfl ?_
              refine TL.add hF rfl rfl (by omega) (by omega) rfl ?_
              refine TL.assign hF rfl rfl ?_
              refine TL.nil ?_
              refine TQ.round (j + 1) (by omega) (by omega) ⟨rfl, rfl, rfl, rfl, rfl, congrArg (fun z => some (Value.int .i64 z)) (by rw [needA_succ, needS]; simp_all), rfl, rfl, rfl, trivial⟩ rfl
            · refine T.skip ?_
              refine TQ.block_n ?_
              refine TQ.then_n ?_
              refine T.region ?_
              refine TL.move hF rfl rfl ?_
              refine TL.add hF rfl rfl (by omega) (by omega) rfl ?_
              refine TL.assign hF rfl rfl ?_
              refine TL.nil ?_
              refine TQ.round (j + 1) (by omega) (by omega) ⟨rfl, rfl, rfl, rfl, rfl, congrArg (fun z => some (Value.int .i64 z)) (by rw [needA_succ, needS]; simp_all), rfl, rfl, rfl, trivial⟩ rfl
        · refine T.exit ?_
          refine TQ.then_x ?_
          refine TQ.then_x ?_
          refine TQ.block_x ?_
          refine TQ.block_n ?_
          refine TQ.then_n ?_
          refine T.region ?_
          refine TL.move hF rfl rfl ?_
          refine TL.add hF rfl rfl (by omega) (by omega) rfl ?_
          refine TL.assign hF rfl rfl ?_
          refine TL.nil ?_
          have hjn : j = n := by omega
          subst hjn
          exact TQ.round (k + 1) (by omega) (by omega) ⟨rfl, rfl, rfl, rfl, rfl, congrArg (fun z => some (Value.int .i64 z)) (by rw [List.take_succ_eq_append_getElem (by omega), needB_snoc]), rfl, trivial⟩ rfl
      · refine T.exit ?_
        refine TQ.then_x ?_
        refine TQ.then_x ?_
        refine TQ.block_x ?_
        refine TQ.then_n ?_
        refine T.seq ?_
        refine T.region ?_
        refine TL.assign hF rfl rfl ?_
        refine TL.nil ?_
        refine TQ.then_n ?_
        refine T.block ?_
        have hkl : k = (bls[i]'(by omega)).length := by omega
        subst hkl
        have htk : (bls[i]'(by omega)).take (bls[i]'(by omega)).length = (bls[i]'(by omega)) := List.take_length
        rw [htk]
        refine T.loop (ι := Nat) (fun k => k ≤ (bls[i]'(by omega)).length) (fun k => [(0, .int .i64 (n : Int)), (1, .slice p rs.length c), (6, .slice ba bls.length bc), (8, .slice (some ⟨b25, 0, none⟩) n n), (9, .int .i64 (i : Int)), (10, .int .i64 (needB (EU rs) (ED rs) n (bls[i]'(by omega)) (levelsF (EU rs) (ED rs) n (bls.take i)) (bls[i]'(by omega)))), (14, .int .i64 (k : Int))]) (fun k => iseg b25 n (setL ((bls[i]'(by omega)).take k) (needB (EU rs) (ED rs) n (bls[i]'(by omega)) (levelsF (EU rs) (ED rs) n (bls.take i)) (bls[i]'(by omega))) (levelsF (EU rs) (ED rs) n (bls.take i))) :: (osg ++ η)) (fun k => (bls[i]'(by omega)).length - k) 0 (Nat.zero_le _) ⟨rfl, rfl, rfl, rfl, rfl, rfl, rfl, trivial⟩ (iseg_congr (fun x _ => by simp [setL])) ?_
        rintro k hk
        refine T.seq ?_
        refine T.seq ?_
        refine T.region ?_
        refine TL.move hF rfl rfl ?_
        refine TL.move hF rfl rfl ?_
        refine TL.move hF rfl rfl ?_
        refine TL.indexAddr hF rfl rfl (hf2 i hil) (by omega) (by omega) rfl ?_
        refine TL.load hF rfl (hfi.1.up (hup _)) rfl ?_
        refine TL.len hF rfl rfl ?_
        refine TL.bin hF rfl rfl rfl rfl ?_
        refine TL.nil ?_
        refine TQ.then_n ?_
        first | refine T.cond_d rfl (fun ht89 => ?_) (fun ht89 => ?_) | refine T.cond _ rfl (fun ht89 => ?_) (fun ht89 => ?_)
        · refine T.skip ?_
          refine TQ.then_n ?_
          refine T.seq ?_
          refine T.block ?_
          refine T.region ?_
          refine TL.move hF rfl rfl ?_
          refine TL.move hF rfl rfl ?_
          refine TL.move hF rfl rfl ?_
          refine TL.indexAddr hF rfl rfl (hf2 i hil) (by omega) (by omega) rfl ?_
          refine TL.load hF rfl (hfi.1.up (hup _)) rfl ?_
          refine TL.move hF rfl rfl ?_
          refine TL.indexAddr hF rfl rfl (hfi.2.nad (i := k) (by omega)) (by omega) (by omega) rfl ?_
          refine TL.load hF rfl ((hfi.2.nat (i := k) (by omega)).up (hup _)) rfl ?_
          refine TL.move hF rfl rfl ?_
          refine TL.indexAddr hF rfl rfl ⟨_, rfl, rfl⟩ (by omega) (by have := hom _ (List.getElem_mem (show k < (bls[i]'(by omega)).length by omega)); omega) rfl ?_
          refine TL.storeI hF 0 rfl rfl rfl rfl (by have := hom _ (List.getElem_mem (show k < (bls[i]'(by omega)).length by omega)); simp [intC_len]; omega) ?_
          refine TL.nil ?_
          refine TQ.block_n ?_
          refine TQ.then_n ?_
          refine T.region ?_
          refine TL.move hF rfl rfl ?_
          refine TL.add hF rfl rfl (by omega) (by omega) rfl ?_
          refine TL.assign hF rfl rfl ?_
          refine TL.nil ?_
          refine TQ.round (k + 1) (by omega) (by omega) ⟨rfl, rfl, rfl, rfl, rfl, rfl, rfl, trivial⟩ (iseg_set (j := (bls[i]'(by omega))[k]) (by simp) (fun x hx => by rw [List.take_succ_eq_append_getElem (by omega), setL_snoc]))
        · refine T.exit ?_
          refine TQ.then_x ?_
          refine TQ.then_x ?_
          refine TQ.block_x ?_
          refine TQ.block_n ?_
          refine TQ.then_n ?_
          refine T.region ?_
          refine TL.move hF rfl rfl ?_
          refine TL.add hF rfl rfl (by omega) (by omega) rfl ?_
          refine TL.assign hF rfl rfl ?_
          refine TL.nil ?_
          have hkl : k = (bls[i]'(by omega)).length := by omega
          subst hkl
          exact TQ.round (i + 1) (by omega) (by omega) ⟨rfl, rfl, rfl, rfl, rfl, trivial⟩ (iseg_congr (fun x _ => by rw [htk, List.take_succ_eq_append_getElem (by omega), levelsF_snoc]))
    · refine T.exit ?_
      refine TQ.then_x ?_
      refine TQ.then_x ?_
      refine TQ.block_x ?_
      refine TQ.then_n ?_
      refine T.seq ?_
      refine T.region ?_
      refine TL.move hF rfl rfl ?_
      refine TL.assign hF rfl rfl ?_
      refine TL.assign hF rfl rfl ?_
      refine TL.nil ?_
      refine TQ.then_n ?_
      refine T.ret ?_
      refine TQ.hsub (iseg b25 n (levelsF (EU rs) (ED rs) n (bls.take i)) :: η) (List.Sublist.cons_cons _ (List.sublist_append_right _ _)) ?_
      refine TQ.rets [4, 5] _ rfl rfl rfl ?_
      have hin : i = bls.length := by omega
      subst hin
      rw [List.take_length]
      refine ⟨some ⟨b25, 0, none⟩, n, [iseg b25 n (levelsF (EU rs) (ED rs) n bls)], by simp [retVal], rfl, ?_⟩
      have := row_own (S := S) (w0 := w0) (η := [iseg b25 n (levelsF (EU rs) (ED rs) n bls)]) (b := b25) (cs := intC n (levelsF (EU rs) (ED rs) n bls)) (e := 3) (by simp)
      simpa [ints, intC, Function.comp_def] using this
theorem inAll_iff {rels : Int} : ∀ {l : List Int}, inAll rels l = true ↔ ∀ x ∈ l, inR x rels = true
  | [] => by simp [inAll]
  | x :: r => by simp [inAll, inAll_iff (l := r)]

set_option maxHeartbeats 2000000 in
theorem Reach_fn {p fa : Option Addr} {rs : List RuleD} {fr : List Int} {c fc : Nat} (rels : Int) (hr : Rules S w0 [] p rs) (hl : rs.length < 2 ^ 63) (hfr : Row S w0 [] fa (ints fr)) (hfl : fr.length < 2 ^ 63) :
    Rt Try.prog 17 [.int .i64 rels, .slice p rs.length c, .slice fa fr.length fc].toArray S w0 η (fun v η' => ∃ a cap segs, v = .tuple #[.slice a (reachS rels rs fr).1.length cap, .int .i64 (reachS rels rs fr).2] ∧ η' = segs ++ η ∧ Row S w0 segs a (nats (reachS rels rs fr).1)) := by
  have hF := open_wide
  refine Rt.of (fn := Try.f17) Try.func17 rfl rfl ?_
  refine T.seq ?_
  refine T.region ?_
  refine TL.assign hF rfl rfl ?_
  refine TL.assign hF rfl rfl ?_
  refine TL.nil ?_
  refine TQ.then_n ?_
  refine T.seq ?_
  refine T.seq ?_
  refine T.region ?_
  refine TL.move hF rfl rfl ?_
  refine TL.move hF rfl rfl ?_
  refine TL.callV hF (Check_fn rels hr.ro hl) rfl rfl ?_
  refine TL.assign hF rfl rfl ?_
  refine TL.nil ?_
  refine TQ.then_n ?_
  refine T.seq ?_
  refine T.region ?_
  refine TL.move hF rfl rfl ?_
  refine TL.bin hF rfl rfl rfl rfl ?_
  refine TL.nil ?_
  refine TQ.then_n ?_
  first | refine T.cond_d rfl (fun ht19 => ?_) (fun ht19 => ?_) | refine T.cond _ rfl (fun ht19 => ?_) (fun ht19 => ?_)
  · refine T.seq ?_
    refine T.region ?_
    refine TL.move hF rfl rfl ?_
    refine TL.assign hF rfl rfl ?_
    refine TL.assign hF rfl rfl ?_
    refine TL.nil ?_
    refine TQ.then_n ?_
    refine T.ret ?_
    refine TQ.then_r ?_
    refine TQ.rets [6, 7] _ rfl rfl rfl ?_
    have e : reachS rels rs fr = ([], check rels rs) := by unfold reachS; rw [if_pos ht19]
    rw [e]
    exact ⟨none, 0, [], rfl, rfl, ⟨fun h => by simp at h, fun i v h => by simp at h⟩⟩
  · refine T.skip ?_
    refine TQ.then_n ?_
    refine T.seq ?_
    refine T.seq ?_
    refine T.region ?_
    refine TL.assign hF rfl rfl ?_
    refine TL.nil ?_
    refine TQ.then_n ?_
    refine T.block ?_
    obtain ⟨hk1, hk2, hk3, hk4⟩ := check_ok (Classical.not_not.1 ht19)
    obtain ⟨n, rfl⟩ : ∃ n : Nat, rels = (n : Int) := ⟨rels.toNat, by omega⟩
    have hb := errs_body hk4
    refine T.loop (ι := Nat) (fun k => k ≤ fr.length ∧ inAll n fr = inAll n (fr.drop k)) (fun k => [(0, .int .i64 (n : Int)), (1, .slice p rs.length c), (2, .slice fa fr.length fc), (9, .int .i64 (k : Int))]) (fun _ => η) (fun k => fr.length - k) 0 ⟨Nat.zero_le _, by simp⟩ ⟨rfl, rfl, rfl, rfl, trivial⟩ rfl ?_
    rintro k ⟨hk, hs⟩
    refine T.seq ?_
    refine T.seq ?_
    refine T.region ?_
    refine TL.move hF rfl rfl ?_
    refine TL.move hF rfl rfl ?_
    refine TL.len hF rfl rfl ?_
    refine TL.bin hF rfl rfl rfl rfl ?_
    refine TL.nil ?_
    refine TQ.then_n ?_
    first | refine T.cond_d rfl (fun ht24 => ?_) (fun ht24 => ?_) | refine T.cond _ rfl (fun ht24 => ?_) (fun ht24 => ?_)
    · refine T.skip ?_
      refine TQ.then_n ?_
      refine T.seq ?_
      refine T.block ?_
      refine T.seq ?_
      refine T.region ?_
      refine TL.move hF rfl rfl ?_
      refine TL.move hF rfl rfl ?_
      refine TL.indexAddr hF rfl rfl (hfr.adi (i := k) (by simp; omega)) (by omega) (by omega) rfl ?_
      refine TL.load hF rfl (hfr.ro.int (i := k) (by omega)) rfl ?_
      refine TL.move hF rfl rfl ?_
      refine TL.callV hF (in_fn _ _) rfl rfl ?_
      refine TL.not hF rfl rfl ?_
      refine TL.nil ?_
      refine TQ.then_n ?_
      refine T.cond _ rfl (fun ht33 => ?_) (fun ht33 => ?_)
      · refine T.seq ?_
        refine T.region ?_
        refine TL.assign hF rfl rfl ?_
        refine TL.assign hF rfl rfl ?_
        refine TL.nil ?_
        refine TQ.then_n ?_
        refine T.ret ?_
        refine TQ.block_r ?_
        refine TQ.then_r ?_
        refine TQ.then_r ?_
        refine TQ.block_r ?_
        refine TQ.then_r ?_
        refine TQ.rets [6, 7] _ rfl rfl rfl ?_
        have hf : inAll n fr = false := by rw [hs, drop_step (by omega), inAll]; simp at ht33; simp [ht33]
        have e : reachS n rs fr = ([], 2) := by unfold reachS; rw [if_neg (by simpa using ht19), if_pos hf]
        rw [e]
        exact ⟨none, 0, [], rfl, rfl, ⟨fun h => by simp at h, fun i v h => by simp at h⟩⟩
      · refine T.skip ?_
        refine TQ.block_n ?_
        refine TQ.then_n ?_
        refine T.region ?_
        refine TL.move hF rfl rfl ?_
        refine TL.add hF rfl rfl (by omega) (by omega) rfl ?_
        refine TL.assign hF rfl rfl ?_
        refine TL.nil ?_
        refine TQ.round (k + 1) ⟨by omega, by rw [hs, drop_step (by omega), inAll]; simp at ht33; simp [ht33]⟩ (by omega) ⟨rfl, rfl, rfl, rfl, trivial⟩ rfl
    · refine T.exit ?_
      refine TQ.then_x ?_
      refine TQ.then_x ?_
      refine TQ.block_x ?_
      refine TQ.then_n ?_
      refine T.seq ?_
      refine T.region ?_
      refine TL.move hF rfl rfl ?_
      refine TL.move hF rfl rfl ?_
      refine TL.call hF (Leads_fn (n := n) hr hl hb (by omega)) rfl rfl ?_
      rintro _ _ ⟨ma, mc, msg, rfl, rfl, hM⟩
      have hall : inAll n fr = true := by rw [hs, List.drop_of_length_le (by omega)]; rfl
      obtain ⟨f, hf⟩ := hM
      refine TL.assign hF rfl rfl ?_
      refine TL.nil ?_
      refine TQ.then_n ?_
      refine T.seq ?_
      refine T.region ?_
      refine TL.assign hF rfl rfl ?_
      refine TL.nil ?_
      refine TQ.then_n ?_
      refine T.seq ?_
      refine T.seq ?_
      refine T.region ?_
      refine TL.assign hF rfl rfl ?_
      refine TL.nil ?_
      refine TQ.then_n ?_
      refine T.block ?_
      refine T.hnil ?_
      refine T.loop (ι := Nat × List Nat × Option Addr × Nat × Seg) (fun i => i.1 ≤ n ∧ i.2.1 = (List.range i.1).filter (hits (fwM (EU rs) n) (fr.map Int.toNat)) ∧ OSl 3 1 (.slice i.2.2.1 i.2.1.length i.2.2.2.1) i.2.1.length (nats i.2.1) i.2.2.2.2) (fun i => [(0, .int .i64 (n : Int)), (1, .slice p rs.length c), (2, .slice fa fr.length fc), (10, .slice ma n mc), (11, .slice i.2.2.1 i.2.1.length i.2.2.2.1), (12, .int .i64 (i.1 : Int))]) (fun i => i.2.2.2.2 :: (msg ++ η)) (fun i => n - i.1) (0, [], none, 0, []) ⟨Nat.zero_le _, rfl, OSl.nil 3 1⟩ ⟨rfl, rfl, rfl, rfl, rfl, rfl, trivial⟩ rfl ?_
      rintro ⟨q, l, a, cap, seg⟩ ⟨hq, hlq, ho⟩
      simp only at hq hlq ho
      have hlen : l.length ≤ q := by rw [hlq]; simpa using List.length_filter_le (p := (hits (fwM (EU rs) n) (fr.map Int.toNat))) (l := List.range q)
      refine T.seq ?_
      refine T.seq ?_
      refine T.region ?_
      refine TL.move hF rfl rfl ?_
      refine TL.move hF rfl rfl ?_
      refine TL.bin hF rfl rfl rfl rfl ?_
      refine TL.nil ?_
      refine TQ.then_n ?_
      first | refine T.cond_d rfl (fun ht39 => ?_) (fun ht39 => ?_) | refine T.cond _ rfl (fun ht39 => ?_) (fun ht39 => ?_)
      · refine T.skip ?_
        refine TQ.then_n ?_
        refine T.seq ?_
        refine T.block ?_
        refine T.seq ?_
        refine T.region ?_
        refine TL.move hF rfl rfl ?_
        refine TL.move hF rfl rfl ?_
        refine TL.callV hF (has_fn (q : Int) hfr.ro hfl) rfl rfl ?_
        refine TL.assign hF rfl rfl ?_
        refine TL.nil ?_
        refine TQ.then_n ?_
        refine T.seq ?_
        refine T.seq ?_
        refine T.region ?_
        refine TL.assign hF rfl rfl ?_
        refine TL.nil ?_
        refine TQ.then_n ?_
        refine T.block ?_
        have hup : ∀ x ∈ msg, x ∈ seg :: (msg ++ η) := fun x hx => List.mem_cons_of_mem _ (List.mem_append_left _ hx)
        have hqn : q < n := by have h : (q : Int) < n := ht39; omega
        refine T.loop (ι := Nat) (fun i => i ≤ fr.length) (fun i => [(0, .int .i64 (n : Int)), (1, .slice p rs.length c), (2, .slice fa fr.length fc), (10, .slice ma n mc), (11, .slice a l.length cap), (12, .int .i64 (q : Int)), (13, .bool (decide ((q : Int) ∈ fr) || ((fr.take i).map Int.toNat).any (fun s => (fwM (EU rs) n) q s))), (14, .int .i64 (i : Int))]) (fun i => seg :: (msg ++ η)) (fun i => fr.length - i) 0 (Nat.zero_le _) ⟨rfl, rfl, rfl, rfl, rfl, rfl, congrArg (fun z => some (Value.bool z)) (by simp), rfl, trivial⟩ rfl ?_
        rintro i hi
        refine T.seq ?_
        refine T.seq ?_
        refine T.region ?_
        refine TL.move hF rfl rfl ?_
        refine TL.move hF rfl rfl ?_
        refine TL.len hF rfl rfl ?_
        refine TL.bin hF rfl rfl rfl rfl ?_
        refine TL.nil ?_
        refine TQ.then_n ?_
        first | refine T.cond_d rfl (fun ht48 => ?_) (fun ht48 => ?_) | refine T.cond _ rfl (fun ht48 => ?_) (fun ht48 => ?_)
        · refine T.skip ?_
          refine TQ.then_n ?_
          refine T.seq ?_
          refine T.block ?_
          have hin := inAll_iff.1 hall fr[i] (List.getElem_mem _)
          have hin' : 0 ≤ fr[i] ∧ fr[i] < n := by simpa [inR] using hin
          cases hp : (decide ((q : Int) ∈ fr) || ((fr.take i).map Int.toNat).any (fun s => (fwM (EU rs) n) q s))
          · refine T.draw ?_
            refine DR.stepV [_] rfl [(13, _, none)] rfl rfl ⟨⟨rfl, by kernel_rfl⟩, trivial⟩ (fun ext => TL.move hF rfl rfl TL.fin) ?_
            refine DR.stepV [_, _] rfl [(51, _, some 0)] rfl rfl ⟨⟨rfl, rfl, rfl⟩, trivial⟩ (fun ext => TL.move hF rfl rfl TL.fin) ?_
            refine DR.stepV [_, _, _] rfl [(10, _, none), (52, _, some 1)] rfl rfl ⟨⟨rfl, by kernel_rfl⟩, ⟨rfl, rfl, rfl⟩, trivial⟩ (fun ext => TL.on rfl rfl rfl rfl <| TL.move hF rfl rfl TL.fin) ?_
            refine DR.stepV [_, _, _, _] rfl [(12, _, none), (52, _, some 1)] rfl rfl ⟨⟨rfl, by kernel_rfl⟩, ⟨rfl, rfl, rfl⟩, trivial⟩ (fun ext => TL.on rfl rfl rfl rfl <| TL.move hF rfl rfl TL.fin) ?_
            refine DR.stepV [_, _, _, _, _] rfl [(53, _, some 2), (54, _, some 3), (52, _, some 1)] rfl rfl ⟨⟨rfl, rfl, rfl⟩, ⟨rfl, rfl, rfl⟩, ⟨rfl, rfl, rfl⟩, trivial⟩ (fun ext => TL.on rfl rfl rfl rfl <| TL.indexAddr hF rfl rfl (hf q hqn).1 (by omega) (by omega) rfl TL.fin) ?_
            refine DR.stepV [_, _, _, _, _, _] rfl [(55, _, some 4), (52, _, some 1)] rfl rfl ⟨⟨rfl, rfl, rfl⟩, ⟨rfl, rfl, rfl⟩, trivial⟩ (fun ext => TL.on rfl rfl rfl rfl <| TL.load hF rfl ((hf q hqn).2.1.up hup) rfl TL.fin) ?_
            refine DR.stepV [_, _, _, _, _, _, _] rfl [(2, _, none), (52, _, some 1)] rfl rfl ⟨⟨rfl, by kernel_rfl⟩, ⟨rfl, rfl, rfl⟩, trivial⟩ (fun ext => TL.on rfl rfl rfl rfl <| TL.move hF rfl rfl TL.fin) ?_
            refine DR.stepV [_, _, _, _, _, _, _, _] rfl [(14, _, none), (52, _, some 1)] rfl rfl ⟨⟨rfl, by kernel_rfl⟩, ⟨rfl, rfl, rfl⟩, trivial⟩ (fun ext => TL.on rfl rfl rfl rfl <| TL.move hF rfl rfl TL.fin) ?_
            refine DR.stepV [_, _, _, _, _, _, _, _, _] rfl [(57, _, some 6), (58, _, some 7), (52, _, some 1)] rfl rfl ⟨⟨rfl, rfl, rfl⟩, ⟨rfl, rfl, rfl⟩, ⟨rfl, rfl, rfl⟩, trivial⟩ (fun ext => TL.on rfl rfl rfl rfl <| TL.indexAddr hF rfl rfl (hfr.adi (i := i) (by simp; omega)) (by omega) (by omega) rfl TL.fin) ?_
            refine DR.stepV [_, _, _, _, _, _, _, _, _, _] rfl [(59, _, some 8), (52, _, some 1)] rfl rfl ⟨⟨rfl, rfl, rfl⟩, ⟨rfl, rfl, rfl⟩, trivial⟩ (fun ext => TL.on rfl rfl rfl rfl <| TL.load hF rfl (hfr.ro.int (i := i) (by omega)) rfl TL.fin) ?_
            refine DR.done [(60, _), (59, _), (58, _), (57, _), (56, _), (55, _), (54, _), (53, _), (52, _), (51, _)] [_, _, _, _] mixed (by kernel_rfl) (by kernel_rfl) (by kernel_rfl) rfl rfl ?_
            refine TL.on rfl rfl rfl rfl ?_
            refine TL.indexAddr hF rfl rfl ((hf q hqn).2.2.bad (j := 0) (by omega)) (by omega) (by omega) rfl ?_
            refine TL.on rfl rfl rfl rfl ?_
            refine TL.load hF rfl (((hf q hqn).2.2.bit (j := (fr[i]).toNat) (by omega)).up hup) rfl ?_
            refine TL.pickF hF rfl rfl rfl rfl ?_
            refine TL.assign hF rfl rfl ?_
            refine TL.nil ?_
            refine TQ.block_n ?_
            refine TQ.then_n ?_
            refine T.region ?_
            refine TL.move hF rfl rfl ?_
            refine TL.add hF rfl rfl (by omega) (by omega) rfl ?_
            refine TL.assign hF rfl rfl ?_
            refine TL.nil ?_
            refine TQ.round (i + 1) (by omega) (by omega) ⟨rfl, rfl, rfl, rfl, rfl, rfl, congrArg (fun z => some (Value.bool z)) (by rw [List.take_succ_eq_append_getElem (by omega), List.map_append, List.any_append, ← Bool.or_assoc, hp]; simp), rfl, trivial⟩ rfl
          · refine T.draw ?_
            refine DR.stepV [_] rfl [(13, _, none)] rfl rfl ⟨⟨rfl, by kernel_rfl⟩, trivial⟩ (fun ext => TL.move hF rfl rfl TL.fin) ?_
            refine DR.stepV [_, _] rfl [(51, _, some 0)] rfl rfl ⟨⟨rfl, rfl, rfl⟩, trivial⟩ (fun ext => TL.move hF rfl rfl TL.fin) ?_
            refine DR.stepV [_, _, _] rfl [(10, _, none), (52, _, some 1)] rfl rfl ⟨⟨rfl, by kernel_rfl⟩, ⟨rfl, rfl, rfl⟩, trivial⟩ (fun ext => TL.off hF rfl rfl rfl rfl rfl TL.fin) ?_
            refine DR.stepV [_, _, _, _] rfl [(12, _, none), (52, _, some 1)] rfl rfl ⟨⟨rfl, by kernel_rfl⟩, ⟨rfl, rfl, rfl⟩, trivial⟩ (fun ext => TL.off hF rfl rfl rfl rfl rfl TL.fin) ?_
            refine DR.stepV [_, _, _, _, _] rfl [(53, _, some 2), (54, _, some 3), (52, _, some 1)] rfl rfl ⟨⟨rfl, rfl, rfl⟩, ⟨rfl, rfl, rfl⟩, ⟨rfl, rfl, rfl⟩, trivial⟩ (fun ext => TL.off hF rfl rfl rfl rfl rfl TL.fin) ?_
            refine DR.stepV [_, _, _, _, _, _] rfl [(55, _, some 4), (52, _, some 1)] rfl rfl ⟨⟨rfl, rfl, rfl⟩, ⟨rfl, rfl, rfl⟩, trivial⟩ (fun ext => TL.off hF rfl rfl rfl rfl rfl TL.fin) ?_
            refine DR.stepV [_, _, _, _, _, _, _] rfl [(2, _, none), (52, _, some 1)] rfl rfl ⟨⟨rfl, by kernel_rfl⟩, ⟨rfl, rfl, rfl⟩, trivial⟩ (fun ext => TL.off hF rfl rfl rfl rfl rfl TL.fin) ?_
            refine DR.stepV [_, _, _, _, _, _, _, _] rfl [(14, _, none), (52, _, some 1)] rfl rfl ⟨⟨rfl, by kernel_rfl⟩, ⟨rfl, rfl, rfl⟩, trivial⟩ (fun ext => TL.off hF rfl rfl rfl rfl rfl TL.fin) ?_
            refine DR.stepV [_, _, _, _, _, _, _, _, _] rfl [(57, _, some 6), (58, _, some 7), (52, _, some 1)] rfl rfl ⟨⟨rfl, rfl, rfl⟩, ⟨rfl, rfl, rfl⟩, ⟨rfl, rfl, rfl⟩, trivial⟩ (fun ext => TL.off hF rfl rfl rfl rfl rfl TL.fin) ?_
            refine DR.stepV [_, _, _, _, _, _, _, _, _, _] rfl [(59, _, some 8), (52, _, some 1)] rfl rfl ⟨⟨rfl, rfl, rfl⟩, ⟨rfl, rfl, rfl⟩, trivial⟩ (fun ext => TL.off hF rfl rfl rfl rfl rfl TL.fin) ?_
            refine DR.done [(60, _), (59, _), (58, _), (57, _), (56, _), (55, _), (54, _), (53, _), (52, _), (51, _)] [_, _, _, _] mixed (by kernel_rfl) (by kernel_rfl) (by kernel_rfl) rfl rfl ?_
            refine TL.off hF rfl rfl rfl rfl rfl ?_
            refine TL.off hF rfl rfl rfl rfl rfl ?_
            refine TL.pickT hF rfl rfl rfl rfl ?_
            refine TL.assign hF rfl rfl ?_
            refine TL.nil ?_
            refine TQ.block_n ?_
            refine TQ.then_n ?_
            refine T.region ?_
            refine TL.move hF rfl rfl ?_
            refine TL.add hF rfl rfl (by omega) (by omega) rfl ?_
            refine TL.assign hF rfl rfl ?_
            refine TL.nil ?_
            refine TQ.round (i + 1) (by omega) (by omega) ⟨rfl, rfl, rfl, rfl, rfl, rfl, congrArg (fun z => some (Value.bool z)) (by rw [List.take_succ_eq_append_getElem (by omega), List.map_append, List.any_append, ← Bool.or_assoc, hp]; simp), rfl, trivial⟩ rfl
        · refine T.exit ?_
          refine TQ.then_x ?_
          refine TQ.then_x ?_
          refine TQ.block_x ?_
          refine TQ.then_n ?_
          refine T.seq ?_
          refine T.region ?_
          refine TL.move hF rfl rfl ?_
          refine TL.nil ?_
          refine TQ.then_n ?_
          have hil : i = fr.length := by omega
          subst hil
          have hpr : (decide ((q : Int) ∈ fr) || ((fr.take fr.length).map Int.toNat).any (fun s => (fwM (EU rs) n) q s)) = (hits (fwM (EU rs) n) (fr.map Int.toNat)) q := by
            rw [List.take_length, hits]
            congr 1
            rw [Bool.eq_iff_iff]; simp only [decide_eq_true_eq, List.contains_iff_mem, List.mem_map]
            constructor
            · intro h; exact ⟨_, h, by simp⟩
            · rintro ⟨x, hx, he⟩
              have hin' : 0 ≤ x ∧ x < n := by simpa [inR] using inAll_iff.1 hall x hx
              have : x = (q : Int) := by omega
              rw [← this]; exact hx
          rw [hpr]
          refine T.cond _ rfl (fun ht64 => ?_) (fun ht64 => ?_)
          · refine T.region ?_
            refine TL.move hF rfl rfl ?_
            refine TL.move hF rfl rfl ?_
            refine TL.buildSlice hF rfl (cs := #[.int .i64 (q : Int)]) (e := 3) (fun w => by kernel_rfl) rfl (fun b67 => ?_)
            refine TL.append hF 1 rfl rfl rfl ho (row_own (cs := [.int .i64 (q : Int)]) (e := 3) (by simp)).src rfl rfl (by simp [Value.oneCell']) (by omega) (by omega) rfl (fun a' cap' seg' ho' => ?_)
            refine TL.assign hF rfl rfl ?_
            refine TL.nil ?_
            refine TQ.block_n ?_
            refine TQ.then_n ?_
            refine T.region ?_
            refine TL.move hF rfl rfl ?_
            refine TL.add hF rfl rfl (by omega) (by omega) rfl ?_
            refine TL.assign hF rfl rfl ?_
            refine TL.nil ?_
            have e1 : (l ++ [q]).length = l.length + 1 := by simp
            refine TQ.pop ?_
            refine TQ.round (q + 1, l ++ [q], a', cap', seg') ⟨by simp only; omega, ?_, by simpa using ho'⟩ (by simp only; omega) ⟨rfl, rfl, rfl, rfl, congrArg (fun z => some (Value.slice a' z cap')) e1.symm, rfl, trivial⟩ rfl
            rw [List.range_succ, List.filter_append, ← hlq]; simp [ht64]
          · refine T.skip ?_
            refine TQ.block_n ?_
            refine TQ.then_n ?_
            refine T.region ?_
            refine TL.move hF rfl rfl ?_
            refine TL.add hF rfl rfl (by omega) (by omega) rfl ?_
            refine TL.assign hF rfl rfl ?_
            refine TL.nil ?_
            refine TQ.round (q + 1, l, a, cap, seg) ⟨by simp only; omega, ?_, ho⟩ (by simp only; omega) ⟨rfl, rfl, rfl, rfl, rfl, rfl, trivial⟩ rfl
            rw [List.range_succ, List.filter_append, ← hlq]; simp [ht64]
      · refine T.exit ?_
        refine TQ.then_x ?_
        refine TQ.then_x ?_
        refine TQ.block_x ?_
        refine TQ.then_n ?_
        refine T.seq ?_
        refine T.region ?_
        refine TL.move hF rfl rfl ?_
        refine TL.assign hF rfl rfl ?_
        refine TL.assign hF rfl rfl ?_
        refine TL.nil ?_
        refine TQ.then_n ?_
        refine T.ret ?_
        refine TQ.hsub (seg :: η) (List.Sublist.cons_cons _ (List.sublist_append_right _ _)) ?_
        refine TQ.rets [6, 7] _ rfl rfl rfl ?_
        have hqn : q = n := by have h : ¬ (q : Int) < n := ht39; omega
        subst hqn
        have e : reachS q rs fr = (l, 0) := by unfold reachS; rw [if_neg (by simpa using ht19), if_neg (by simp [hall]), Int.toNat_natCast, hlq]
        rw [e]
        exact ⟨a, cap, [seg], rfl, rfl, ho.row (by simp)⟩
end Go.Proofs.Ytdehpaikapbckaa
