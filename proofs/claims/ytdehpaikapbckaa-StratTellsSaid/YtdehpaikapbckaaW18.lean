/- The program's levels. -/
import Derived.Test.YtdehpaikapbckaaLeast
namespace Go.Proofs.Ytdehpaikapbckaa
open Go.Sl
variable {S : Nat → Prop} {w0 : World} {η : Heap}
set_option maxHeartbeats 2000000 in
theorem Levels_prog {p : Option Addr} {rs : List RuleD} {c : Nat} (rels : Int) (hr : Rules S w0 [] p rs) (hl : rs.length < 2 ^ 63) (hbl : ∀ r ∈ rs, r.body.length < 2 ^ 63) :
    Rt Try.prog 14 [.int .i64 rels, .slice p rs.length c].toArray S w0 η (fun v η' => ∃ a cap segs, v = .tuple #[.slice a (levelsS rels rs).1.length cap, .int .i64 (levelsS rels rs).2] ∧ η' = segs ++ η ∧ Row S w0 segs a (ints (levelsS rels rs).1)) := by
  have hF := open_wide
  refine Rt.ofL (fn := Try.f14) Try.func14 rfl rfl ?_
  refine T.seq ?_
  refine T.region ?_
  refine TL.assign hF rfl rfl ?_
  refine TL.alloc hF rfl (fun b5 => ?_)
  refine TL.nil ?_
  refine TQ.then_n ?_
  refine T.seq ?_
  refine T.region ?_
  refine TL.makeFunc hF rfl rfl rfl ?_
  refine TL.defer hF rfl rfl ?_
  refine TL.nil ?_
  refine TQ.then_n ?_
  refine T.seq ?_
  refine T.region ?_
  refine TL.move hF rfl rfl ?_
  refine TL.move hF rfl rfl ?_
  refine TL.callE hF (opened_fn rels hr hl hbl) rfl rfl ?_ ?_
  · rintro _ _ ⟨hck, bw, bm, es, clock, m, rfl, rfl, hwo, hw⟩
    obtain ⟨hk1, hk2, hk3, hk4⟩ := check_ok hck
    obtain ⟨n, rfl⟩ : ∃ n : Nat, rels = (n : Int) := ⟨rels.toNat, by omega⟩
    have hU := uok hk4
    have hweb : Web (wseg bw bm n :: [(bm, .map es clock)] :: [(b5, .cells #[.int .i64 0] 27 (0, 0))] :: η) bw n (UR rs) m := ⟨⟨bm, es, clock, by simp, by simp, hwo⟩, hw⟩
    refine TL.assign hF rfl rfl ?_
    refine TL.nil ?_
    refine TQ.then_n ?_
    refine T.seq ?_
    refine T.region ?_
    refine TL.move hF rfl rfl ?_
    refine TL.callM hF (ordered_prog (n := n) (by omega) hweb hU) rfl rfl (fun ho v17 => ?_) (fun ho => ?_)
    · have ho' : ordB n (ED rs) (fwM (EU rs) n) = true := ho
      obtain ⟨hfit, hleast⟩ := levels_least (E := EU rs) (D := ED rs) (n := n) (fun a b h => hU.le a b h) ho'
      have hTn : ∀ b, 0 ≤ (levelsF (EU rs) (ED rs) n (orderS n (fwM (EU rs) n) n [])) b ∧ (levelsF (EU rs) (ED rs) n (orderS n (fwM (EU rs) n) n [])) b ≤ n := fun b => by
        have h1 := levelsF_le (E := EU rs) (D := ED rs) (n := n) (orderS n (fwM (EU rs) n) n []) b
        have h2 := orderS_len (n := n) (M := fwM (EU rs) n) n []
        omega
      refine TL.nil ?_
      refine TQ.then_n ?_
      refine T.seq ?_
      refine T.region ?_
      refine TL.move hF rfl rfl ?_
      refine TL.makeSlice hF (k := n) rfl rfl rfl (by omega) (by omega) rfl (fun b19 => ?_)
      refine TL.assign hF rfl rfl ?_
      refine TL.nil ?_
      refine TQ.then_n ?_
      refine T.seq ?_
      refine T.seq ?_
      refine T.region ?_
      refine TL.assign hF rfl rfl ?_
      refine TL.nil ?_
      refine TQ.then_n ?_
      refine T.block ?_
      refine T.loop (ι := (Nat → Int) × Bool) (fun i => (∀ a, a < n → 0 ≤ i.1 a) ∧ (∀ a, a < n → i.1 a ≤ (levelsF (EU rs) (ED rs) n (orderS n (fwM (EU rs) n) n [])) a) ∧ (i.2 = false → Fits (EU rs) (ED rs) n i.1)) (fun i => [(4, .slice none 0 0), (5, ptr b5), (6, ptr bw), (7, .slice (some ⟨b19, 0, none⟩) n n), (8, .bool i.2)]) (fun i => iseg b19 n i.1 :: wseg bw bm n :: [(bm, .map es clock)] :: [(b5, .cells #[.int .i64 0] 27 (0, 0))] :: η) (fun i => 2 * sumU (levelsF (EU rs) (ED rs) n (orderS n (fwM (EU rs) n) n [])) i.1 n + (if i.2 then 1 else 0)) ((fun _ => 0), true) ⟨fun _ _ => Int.le_refl _, fun a _ => (hTn a).1, fun h => by simp at h⟩ ⟨rfl, rfl, rfl, rfl, rfl, trivial⟩ (by rw [intC_zero]; rfl) ?_
      rintro ⟨L, more⟩ ⟨hL0, hLT0, hfin⟩
      simp only at hL0 hLT0 hfin
      refine T.seq ?_
      refine T.seq ?_
      refine T.region ?_
      refine TL.move hF rfl rfl ?_
      refine TL.nil ?_
      refine TQ.then_n ?_
      refine T.cond _ rfl (fun ht20 => ?_) (fun ht20 => ?_)
      · refine T.skip ?_
        refine TQ.then_n ?_
        refine T.block ?_
        refine T.seq ?_
        refine T.region ?_
        refine TL.assign hF rfl rfl ?_
        refine TL.nil ?_
        refine TQ.then_n ?_
        refine T.seq ?_
        refine T.region ?_
        refine TL.move hF rfl rfl ?_
        refine TL.nilCheck hF rfl rfl ?_
        refine TL.fieldAddr hF rfl rfl ?_
        refine TL.load hF rfl (by first | exact At.own' (i := 0) rfl rfl | exact At.own' (i := 1) rfl rfl | exact At.own' (i := 2) rfl rfl | exact At.own' (i := 3) rfl rfl | exact At.own' (i := 4) rfl rfl) rfl ?_
        refine TL.range hF rfl (es := es) (clock := clock) (by simp) rfl (fun b25 => ?_)
        refine TL.nil ?_
        refine TQ.then_n ?_
        refine T.block ?_
        refine T.loop (ι := Array Nat × List (Int × Int) × (Nat → Int) × Bool) (fun i => ItOk m es i.1 i.2.1 ∧ i.2.1.Nodup ∧ (∀ x ∈ i.2.1, x ∈ m.map (·.1)) ∧ (∀ a, a < n → L a ≤ i.2.2.1 a) ∧ (∀ a, a < n → i.2.2.1 a ≤ (levelsF (EU rs) (ED rs) n (orderS n (fwM (EU rs) n) n [])) a) ∧ (i.2.2.2 = false → i.2.2.1 = L ∧ ∀ p ∈ m, p.1 ∈ i.2.1 → L p.1.2.toNat + (if p.2 then 1 else 0) ≤ L p.1.1.toNat) ∧ (i.2.2.2 = true → sumU (levelsF (EU rs) (ED rs) n (orderS n (fwM (EU rs) n) n [])) i.2.2.1 n < sumU (levelsF (EU rs) (ED rs) n (orderS n (fwM (EU rs) n) n [])) L n)) (fun i => [(4, .slice none 0 0), (5, ptr b5), (6, ptr bw), (7, .slice (some ⟨b19, 0, none⟩) n n), (8, .bool i.2.2.2), (25, ptr b25)]) (fun i => [(b25, .mapIter (some bm) clock i.1 clock)] :: iseg b19 n i.2.2.1 :: wseg bw bm n :: [(bm, .map es clock)] :: [(b5, .cells #[.int .i64 0] 27 (0, 0))] :: η) (fun i => m.length - i.2.1.length) (#[], [], L, false) ⟨ItOk.start m es, by simp, by simp, fun _ _ => Int.le_refl _, hLT0, fun _ => ⟨rfl, by simp⟩, fun h => by simp at h⟩ ⟨rfl, rfl, rfl, rfl, rfl, rfl, trivial⟩ rfl ?_
        rintro ⟨seen, done, L1, chg⟩ ⟨hit, hnd, hsub, hLL, hLT, hcf, hct⟩
        simp only at hit hnd hsub hLL hLT hcf hct
        refine T.seq ?_
        refine T.region ?_
        refine TL.next hF 0 rfl rfl (by simp) hwo hit rfl (fun hover => ?_) (fun p26 seen26 hp26 hnd26 hit26 hent26 => ?_)
        · refine TL.extract hF rfl rfl rfl ?_
          refine TL.nil ?_
          refine TQ.then_n ?_
          refine T.seq ?_
          refine T.cond_f rfl rfl ?_
          refine T.exit ?_
          refine TQ.then_x ?_
          refine TQ.then_x ?_
          refine TQ.block_x ?_
          refine TQ.block_n ?_
          refine TQ.pop ?_
          subst ht20
          cases chg with
          | true =>
            have h1 := hct rfl
            exact TQ.round (L1, true) ⟨fun a ha => Int.le_trans (hL0 a ha) (hLL a ha), hLT, fun h => by simp at h⟩ (by simp only [if_true]; omega) ⟨rfl, rfl, rfl, rfl, rfl, trivial⟩ rfl
          | false =>
            obtain ⟨h1, h2⟩ := hcf rfl
            subst h1
            refine TQ.round (L1, false) ⟨hL0, hLT, fun _ => ⟨hL0, fun a b ha hb he => ?_, fun a b ha hb hd => ?_⟩⟩ (by simp) ⟨rfl, rfl, rfl, rfl, rfl, trivial⟩ rfl
            · have hin := hw.has (a := a) (b := b) he
              have h3 := h2 _ hin (hover _ hin)
              simp only [Int.toNat_natCast] at h3
              show L1 b ≤ L1 a
              split at h3 <;> omega
            · have hin := hw.has (a := a) (b := b) (hU.le a b hd)
              have h3 := h2 _ hin (hover _ hin)
              simp only [Int.toNat_natCast] at h3
              rw [if_pos hd] at h3; exact h3
        · refine TL.extract hF rfl rfl rfl ?_
          refine TL.nil ?_
          refine TQ.then_n ?_
          refine T.seq ?_
          refine T.cond_t rfl rfl ?_
          refine T.skip ?_
          refine TQ.then_n ?_
          refine T.block ?_
          refine T.seq ?_
          refine T.region ?_
          refine TL.entry hF rfl List.mem_cons_self (by simp) hwo hent26 (K := KU) (V := Value.bool) (p := p26) rfl ?_
          refine TL.extract hF rfl rfl rfl ?_
          refine TL.extract hF rfl rfl rfl ?_
          refine TL.alloc hF rfl (fun b9 => ?_)
          refine TL.storeAI hF [.int .i64 p26.1.1, .int .i64 p26.1.2] 0 rfl rfl rfl rfl (by simp [Value.oneCell']) (by simp [Value.cells]) ?_
          refine TL.assign hF rfl rfl ?_
          refine TL.nil ?_
          refine TQ.then_n ?_
          refine T.seq ?_
          refine T.region ?_
          obtain ⟨hu, hpd⟩ := hw.entry hwo.nd hp26
          obtain ⟨⟨ha0, han⟩, hb0, hbn⟩ := hU.rg _ _ hu
          have hb1 := hLT p26.1.2.toNat (by omega)
          have hb2 := hTn p26.1.2.toNat
          have hb3 := hL0 p26.1.2.toNat (by omega)
          have hb4 := hLL p26.1.2.toNat (by omega)
          refine TL.move hF rfl rfl ?_
          refine TL.fieldAddr hF rfl rfl ?_
          refine TL.load hF rfl (own_list (i := 0) (cs := [.int .i64 p26.1.1, .int .i64 p26.1.2]) rfl 1 _ rfl) rfl ?_
          refine TL.indexAddr hF rfl rfl ⟨_, rfl, rfl⟩ (by omega) (by omega) rfl ?_
          refine TL.load hF rfl (iseg_at (f := L1) (n := n) (b := b19) (j := p26.1.2.toNat) (by simp) (by omega)) rfl ?_
          refine TL.assign hF rfl rfl ?_
          refine TL.nil ?_
          refine TQ.then_n ?_
          refine T.seq ?_
          refine T.seq ?_
          refine T.region ?_
          refine TL.move hF rfl rfl ?_
          refine TL.nil ?_
          refine TQ.then_n ?_
          refine T.cond _ rfl (fun ht36 => ?_) (fun ht36 => ?_)
          · refine T.region ?_
            refine TL.move hF rfl rfl ?_
            refine TL.add hF rfl rfl (by omega) (by omega) rfl ?_
            refine TL.assign hF rfl rfl ?_
            refine TL.nil ?_
            refine TQ.then_n ?_
            refine T.seq ?_
            refine T.region ?_
            refine TL.move hF rfl rfl ?_
            refine TL.move hF rfl rfl ?_
            refine TL.fieldAddr hF rfl rfl ?_
            refine TL.load hF rfl (own_list (i := 0) (cs := [.int .i64 p26.1.1, .int .i64 p26.1.2]) rfl 0 _ rfl) rfl ?_
            refine TL.indexAddr hF rfl rfl ⟨_, rfl, rfl⟩ (by omega) (by omega) rfl ?_
            refine TL.load hF rfl (iseg_at (f := L1) (n := n) (b := b19) (j := p26.1.1.toNat) (by simp) (by omega)) rfl ?_
            refine TL.bin hF rfl rfl rfl rfl ?_
            refine TL.nil ?_
            refine TQ.then_n ?_
            first | refine T.cond_d rfl (fun ht45 => ?_) (fun ht45 => ?_) | refine T.cond _ rfl (fun ht45 => ?_) (fun ht45 => ?_)
            · refine T.region ?_
              refine TL.move hF rfl rfl ?_
              refine TL.fieldAddr hF rfl rfl ?_
              refine TL.load hF rfl (own_list (i := 0) (cs := [.int .i64 p26.1.1, .int .i64 p26.1.2]) rfl 0 _ rfl) rfl ?_
              refine TL.move hF rfl rfl ?_
              refine TL.indexAddr hF rfl rfl ⟨_, rfl, rfl⟩ (by omega) (by omega) rfl ?_
              refine TL.storeI hF 2 rfl rfl rfl rfl (by simp [intC_len]; omega) ?_
              refine TL.assign hF rfl rfl ?_
              refine TL.nil ?_
              refine TQ.block_n ?_
              have hlt := done_len hnd hsub hp26 hnd26
              have hsub2 : ∀ x ∈ p26.1 :: done, x ∈ m.map (·.1) := fun x hx => by
                rcases List.mem_cons.1 hx with rfl | hx
                · exact List.mem_map.2 ⟨_, hp26, rfl⟩
                · exact hsub x hx
              refine TQ.pop ?_
              have hv : (L1 p26.1.2.toNat + 1) ≤ (levelsF (EU rs) (ED rs) n (orderS n (fwM (EU rs) n) n [])) p26.1.1.toNat := by
                have hd : ED rs p26.1.1.toNat p26.1.2.toNat = true := by show uses (p26.1.1.toNat : Nat) (p26.1.2.toNat : Nat) true rs = true; rw [show ((p26.1.1.toNat : Nat) : Int) = p26.1.1 by omega, show ((p26.1.2.toNat : Nat) : Int) = p26.1.2 by omega]; exact hpd.symm.trans ht36
                have := hfit.den _ _ (by omega) (by omega) hd
                omega
              have hgt : L1 p26.1.1.toNat < (L1 p26.1.2.toNat + 1) := by have h := ht45; omega
              refine TQ.round (seen26, p26.1 :: done, (fun i => if i = p26.1.1.toNat then (L1 p26.1.2.toNat + 1) else L1 i), true) ⟨hit26, List.nodup_cons.2 ⟨hnd26, hnd⟩, hsub2, fun a ha => ?_, fun a ha => ?_, fun h => by simp at h, fun _ => ?_⟩ (by simp only [List.length_cons]; omega) ⟨rfl, rfl, rfl, rfl, rfl, rfl, trivial⟩ (congrArg (fun z : Heap => [(b25, Obj.mapIter (some bm) clock seen26 clock)] :: z) (iseg_set (j := p26.1.1.toNat) (by simp) (fun i hi => rfl)))
              · have h2 := hLL a ha; show L a ≤ (if a = p26.1.1.toNat then (L1 p26.1.2.toNat + 1) else L1 a); split
                · rename_i h3; subst h3; omega
                · exact h2
              · have h2 := hLT a ha; show (if a = p26.1.1.toNat then (L1 p26.1.2.toNat + 1) else L1 a) ≤ (levelsF (EU rs) (ED rs) n (orderS n (fwM (EU rs) n) n [])) a; split
                · rename_i h3; subst h3; exact hv
                · exact h2
              · have h3 : sumU (levelsF (EU rs) (ED rs) n (orderS n (fwM (EU rs) n) n [])) (fun i => if i = p26.1.1.toNat then (L1 p26.1.2.toNat + 1) else L1 i) n < sumU (levelsF (EU rs) (ED rs) n (orderS n (fwM (EU rs) n) n [])) L1 n := sumU_lt (j := p26.1.1.toNat) (fun a ha => by
                  show L1 a ≤ (if a = p26.1.1.toNat then (L1 p26.1.2.toNat + 1) else L1 a); split
                  · rename_i h3; subst h3; omega
                  · exact Int.le_refl _) (by omega) (by simp only [if_true]; exact hgt) (by simp only [if_true]; exact hv)
                have h4 := sumU_le (T := (levelsF (EU rs) (ED rs) n (orderS n (fwM (EU rs) n) n []))) (n := n) hLL
                exact Nat.lt_of_lt_of_le h3 h4
            · refine T.skip ?_
              refine TQ.block_n ?_
              have hlt := done_len hnd hsub hp26 hnd26
              have hsub2 : ∀ x ∈ p26.1 :: done, x ∈ m.map (·.1) := fun x hx => by
                rcases List.mem_cons.1 hx with rfl | hx
                · exact List.mem_map.2 ⟨_, hp26, rfl⟩
                · exact hsub x hx
              refine TQ.pop ?_
              refine TQ.round (seen26, p26.1 :: done, L1, chg) ⟨hit26, List.nodup_cons.2 ⟨hnd26, hnd⟩, hsub2, hLL, hLT, fun hc0 => ⟨(hcf hc0).1, fun p hp hpd2 => ?_⟩, hct⟩ (by simp only [List.length_cons]; omega) ⟨rfl, rfl, rfl, rfl, rfl, rfl, trivial⟩ rfl
              rcases List.mem_cons.1 hpd2 with he | hx
              · have h6 := mget_of_mem hwo.nd hp
                have h2 := mget_of_mem hwo.nd hp26
                rw [he, h2] at h6
                have h3 : p26.2 = p.2 := by simpa using h6
                rw [he, ← h3, ht36, ← (hcf hc0).1]
                have h := ht45; simp; omega
              · exact (hcf hc0).2 p hp hx
          · refine T.skip ?_
            refine TQ.then_n ?_
            refine T.seq ?_
            refine T.region ?_
            refine TL.move hF rfl rfl ?_
            refine TL.move hF rfl rfl ?_
            refine TL.fieldAddr hF rfl rfl ?_
            refine TL.load hF rfl (own_list (i := 0) (cs := [.int .i64 p26.1.1, .int .i64 p26.1.2]) rfl 0 _ rfl) rfl ?_
            refine TL.indexAddr hF rfl rfl ⟨_, rfl, rfl⟩ (by omega) (by omega) rfl ?_
            refine TL.load hF rfl (iseg_at (f := L1) (n := n) (b := b19) (j := p26.1.1.toNat) (by simp) (by omega)) rfl ?_
            refine TL.bin hF rfl rfl rfl rfl ?_
            refine TL.nil ?_
            refine TQ.then_n ?_
            first | refine T.cond_d rfl (fun ht45 => ?_) (fun ht45 => ?_) | refine T.cond _ rfl (fun ht45 => ?_) (fun ht45 => ?_)
            · refine T.region ?_
              refine TL.move hF rfl rfl ?_
              refine TL.fieldAddr hF rfl rfl ?_
              refine TL.load hF rfl (own_list (i := 0) (cs := [.int .i64 p26.1.1, .int .i64 p26.1.2]) rfl 0 _ rfl) rfl ?_
              refine TL.move hF rfl rfl ?_
              refine TL.indexAddr hF rfl rfl ⟨_, rfl, rfl⟩ (by omega) (by omega) rfl ?_
              refine TL.storeI hF 2 rfl rfl rfl rfl (by simp [intC_len]; omega) ?_
              refine TL.assign hF rfl rfl ?_
              refine TL.nil ?_
              refine TQ.block_n ?_
              have hlt := done_len hnd hsub hp26 hnd26
              have hsub2 : ∀ x ∈ p26.1 :: done, x ∈ m.map (·.1) := fun x hx => by
                rcases List.mem_cons.1 hx with rfl | hx
                · exact List.mem_map.2 ⟨_, hp26, rfl⟩
                · exact hsub x hx
              refine TQ.pop ?_
              have hv : (L1 p26.1.2.toNat) ≤ (levelsF (EU rs) (ED rs) n (orderS n (fwM (EU rs) n) n [])) p26.1.1.toNat := by
                have hd : EU rs p26.1.1.toNat p26.1.2.toNat = true := by show uses (p26.1.1.toNat : Nat) (p26.1.2.toNat : Nat) false rs = true; rw [show ((p26.1.1.toNat : Nat) : Int) = p26.1.1 by omega, show ((p26.1.2.toNat : Nat) : Int) = p26.1.2 by omega]; exact hu
                have := hfit.use _ _ (by omega) (by omega) hd
                omega
              have hgt : L1 p26.1.1.toNat < (L1 p26.1.2.toNat) := by have h := ht45; omega
              refine TQ.round (seen26, p26.1 :: done, (fun i => if i = p26.1.1.toNat then (L1 p26.1.2.toNat) else L1 i), true) ⟨hit26, List.nodup_cons.2 ⟨hnd26, hnd⟩, hsub2, fun a ha => ?_, fun a ha => ?_, fun h => by simp at h, fun _ => ?_⟩ (by simp only [List.length_cons]; omega) ⟨rfl, rfl, rfl, rfl, rfl, rfl, trivial⟩ (congrArg (fun z : Heap => [(b25, Obj.mapIter (some bm) clock seen26 clock)] :: z) (iseg_set (j := p26.1.1.toNat) (by simp) (fun i hi => rfl)))
              · have h2 := hLL a ha; show L a ≤ (if a = p26.1.1.toNat then (L1 p26.1.2.toNat) else L1 a); split
                · rename_i h3; subst h3; omega
                · exact h2
              · have h2 := hLT a ha; show (if a = p26.1.1.toNat then (L1 p26.1.2.toNat) else L1 a) ≤ (levelsF (EU rs) (ED rs) n (orderS n (fwM (EU rs) n) n [])) a; split
                · rename_i h3; subst h3; exact hv
                · exact h2
              · have h3 : sumU (levelsF (EU rs) (ED rs) n (orderS n (fwM (EU rs) n) n [])) (fun i => if i = p26.1.1.toNat then (L1 p26.1.2.toNat) else L1 i) n < sumU (levelsF (EU rs) (ED rs) n (orderS n (fwM (EU rs) n) n [])) L1 n := sumU_lt (j := p26.1.1.toNat) (fun a ha => by
                  show L1 a ≤ (if a = p26.1.1.toNat then (L1 p26.1.2.toNat) else L1 a); split
                  · rename_i h3; subst h3; omega
                  · exact Int.le_refl _) (by omega) (by simp only [if_true]; exact hgt) (by simp only [if_true]; exact hv)
                have h4 := sumU_le (T := (levelsF (EU rs) (ED rs) n (orderS n (fwM (EU rs) n) n []))) (n := n) hLL
                exact Nat.lt_of_lt_of_le h3 h4
            · refine T.skip ?_
              refine TQ.block_n ?_
              have hlt := done_len hnd hsub hp26 hnd26
              have hsub2 : ∀ x ∈ p26.1 :: done, x ∈ m.map (·.1) := fun x hx => by
                rcases List.mem_cons.1 hx with rfl | hx
                · exact List.mem_map.2 ⟨_, hp26, rfl⟩
                · exact hsub x hx
              refine TQ.pop ?_
              refine TQ.round (seen26, p26.1 :: done, L1, chg) ⟨hit26, List.nodup_cons.2 ⟨hnd26, hnd⟩, hsub2, hLL, hLT, fun hc0 => ⟨(hcf hc0).1, fun p hp hpd2 => ?_⟩, hct⟩ (by simp only [List.length_cons]; omega) ⟨rfl, rfl, rfl, rfl, rfl, rfl, trivial⟩ rfl
              rcases List.mem_cons.1 hpd2 with he | hx
              · have h6 := mget_of_mem hwo.nd hp
                have h2 := mget_of_mem hwo.nd hp26
                rw [he, h2] at h6
                have h3 : p26.2 = p.2 := by simpa using h6
                rw [he, ← h3, ht36, ← (hcf hc0).1]
                have h := ht45; simp; omega
              · exact (hcf hc0).2 p hp hx
      · refine T.exit ?_
        refine TQ.then_x ?_
        refine TQ.then_x ?_
        refine TQ.block_x ?_
        refine TQ.then_n ?_
        refine T.seq ?_
        refine T.region ?_
        refine TL.move hF rfl rfl ?_
        refine TL.assign hF rfl rfl ?_
        refine TL.storeI hF 3 rfl rfl rfl rfl (by simp) ?_
        refine TL.nil ?_
        refine TQ.then_n ?_
        refine T.ret ?_
        have hmf : more = false := by simpa using ht20
        have hff := hfin hmf
        have e : levelsS n rs = ((List.range n).map (levelsF (EU rs) (ED rs) n (orderS n (fwM (EU rs) n) n [])), 0) := by
          have e : blocksS n rs = (orderS n (fwM (EU rs) n) n [], 0) := by unfold blocksS; rw [if_neg (by simpa using hck), if_pos (by rw [Int.toNat_natCast]; exact ho'), Int.toNat_natCast]
          unfold levelsS; rw [e, Int.toNat_natCast]; simp
        have eL : iseg b19 n L = iseg b19 n (levelsF (EU rs) (ED rs) n (orderS n (fwM (EU rs) n) n [])) := by
          unfold iseg; rw [intC_congr (fun i hi => Int.le_antisymm (hLT0 i hi) (hleast L hff i hi))]
        rw [eL]
        refine TQ.hsub (iseg b19 n (levelsF (EU rs) (ED rs) n (orderS n (fwM (EU rs) n) n [])) :: [(b5, .cells #[.int .i64 0] 27 (0, 0))] :: η) (List.Sublist.cons_cons _ (List.Sublist.cons _ (List.sublist_cons_self _ _))) ?_
        refine TQ.retL [4] _ stop43 (stopped_nil _) rfl rfl rfl (own_mem (cs := #[.int .i64 0]) (e := 27) (fz := (0, 0)) (by simp) rfl) ?_
        rw [e]
        refine ⟨some ⟨b19, 0, none⟩, n, [iseg b19 n (levelsF (EU rs) (ED rs) n (orderS n (fwM (EU rs) n) n [])), [(b5, .cells #[.int .i64 0] 27 (0, 0))]], by simp [retVal], rfl, ?_⟩
        have := row_own (S := S) (w0 := w0) (η := [iseg b19 n (levelsF (EU rs) (ED rs) n (orderS n (fwM (EU rs) n) n [])), [(b5, .cells #[.int .i64 0] 27 (0, 0))]]) (b := b19) (cs := intC n (levelsF (EU rs) (ED rs) n (orderS n (fwM (EU rs) n) n []))) (e := 3) (by simp)
        simpa [ints, intC, Function.comp_def] using this
    · skip
      refine TQ.then_p ?_
      refine TQ.hsub ([(b5, .cells #[.int .i64 0] 27 (0, 0))] :: η) (List.Sublist.cons _ (List.sublist_cons_self _ _)) ?_
      refine TQ.panL [4] [.slice none 0 0] stop43 (stopped_err 10) rfl rfl rfl (At.own' (i := 0) rfl rfl) ?_
      have e : levelsS n rs = ([], 10) := by
        have e : blocksS n rs = ([], 10) := by unfold blocksS; rw [if_neg (by simpa using hck), if_neg (by rw [Int.toNat_natCast]; rw [show ordB n (ED rs) (fwM (EU rs) n) = false from ho]; simp)]
        unfold levelsS; rw [e]; simp
      rw [e]
      exact ⟨none, 0, [[(b5, .cells #[.int .i64 10] 27 (0, 0))]], rfl, rfl, ⟨fun h => by simp at h, fun i v h => by simp at h⟩⟩
  · rintro _ _ ⟨hck, rfl, rfl⟩
    refine TQ.then_p ?_
    refine TQ.panL [4] [.slice none 0 0] stop43 (stopped_err _) rfl rfl rfl (At.own' (i := 0) rfl rfl) ?_
    have e : levelsS rels rs = ([], check rels rs) := by
      have e : blocksS rels rs = ([], check rels rs) := by unfold blocksS; rw [if_pos hck]
      unfold levelsS; rw [e]; simp [hck]
    rw [e]
    exact ⟨none, 0, [[(b5, .cells #[.int .i64 (check rels rs)] 27 (0, 0))]], rfl, rfl, ⟨fun h => by simp at h, fun i v h => by simp at h⟩⟩
end Go.Proofs.Ytdehpaikapbckaa
