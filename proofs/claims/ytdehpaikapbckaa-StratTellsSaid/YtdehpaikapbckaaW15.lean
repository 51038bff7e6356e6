/- The program's blocks. -/
import Derived.Test.YtdehpaikapbckaaW14
namespace Go.Proofs.Ytdehpaikapbckaa
open Go.Sl
variable {S : Nat → Prop} {w0 : World} {η : Heap}
abbrev dseg (b n : Nat) (D : Nat → Bool) : Seg := [(b, .cells (rowC n D).toArray 4 (0, 0))]
theorem dseg_at {b n j : Nat} {D : Nat → Bool} (h : dseg b n D ∈ η) (hj : j < n) : At S w0 η (sAt (some ⟨b, 0, none⟩) (j * 1)) (.bool (D j)) := by
  rw [Nat.mul_one]; exact (row_own h).cell j _ (rowC_get hj)
def ReadyC (b1 b3 b4 bo bd bw n : Nat) (U : Int → Int → Bool → Bool) (m : List ((Int × Int) × Bool)) (D : Nat → Bool) (η : Heap) : Prop :=
  [(b1, Obj.cells #[ptr bw] 59 (0, 0))] ∈ η ∧ [(b3, Obj.cells #[.slice (some ⟨bo, 0, none⟩) n n] 23 (0, 0))] ∈ η ∧ [(b4, Obj.cells #[.slice (some ⟨bd, 0, none⟩) n n] 42 (0, 0))] ∈ η ∧ iseg bo n (fun i => ((ofS (EN U) n i : Nat) : Int)) ∈ η ∧ dseg bd n D ∈ η ∧ Web η bw n U m
/-- A block may come next. -/
def RP (E : Nat → Nat → Bool) (n : Nat) (D : Nat → Bool) (b : Nat) : Prop := ∀ x y, x < n → y < n → E x y = true → ofS E n x = b → ofS E n y ≠ b → D y = true

set_option maxHeartbeats 2000000 in
theorem ready_fn {b1 b3 b4 bo bd bw n b : Nat} {U : Int → Int → Bool → Bool} {m : List ((Int × Int) × Bool)} {D : Nat → Bool} (hn : n ≤ 48) (hU : UOk U n) (hc : ReadyC b1 b3 b4 bo bd bw n U m D η) :
    Rt Try.prog 56 [.int .i64 (b : Int), ptr b1, ptr b3, ptr b4].toArray S w0 η (fun v η' => ∃ r, v = .bool r ∧ η' = η ∧ (r = true ↔ RP (EN U) n D b)) := by
  have hF := open_wide
  refine Rt.of (fn := Try.f56) Try.func56 rfl rfl ?_
  refine T.seq ?_
  refine T.region ?_
  refine TL.assign hF rfl rfl ?_
  refine TL.nil ?_
  refine TQ.then_n ?_
  refine T.seq ?_
  refine T.seq ?_
  refine T.region ?_
  obtain ⟨hc1, hc3, hc4, hco, hcd, hw⟩ := hc
  obtain ⟨bm, es, clock, hws, hwm, hwo⟩ := hw.ex
  refine TL.load hF rfl (own_mem hc1 rfl) rfl ?_
  refine TL.nilCheck hF rfl rfl ?_
  refine TL.fieldAddr hF rfl rfl ?_
  refine TL.load hF rfl (own_mem hws rfl) rfl ?_
  refine TL.range hF rfl hwm rfl (fun b11 => ?_)
  refine TL.nil ?_
  refine TQ.then_n ?_
  refine T.block ?_
  refine T.loop (ι := Array Nat × List (Int × Int)) (fun i => ItOk m es i.1 i.2 ∧ i.2.Nodup ∧ (∀ x ∈ i.2, x ∈ m.map (·.1)) ∧ ∀ p ∈ m, p.1 ∈ i.2 → ofS (EN U) n p.1.1.toNat = b → ofS (EN U) n p.1.2.toNat ≠ b → D p.1.2.toNat = true) (fun i => [(0, .int .i64 (b : Int)), (1, ptr b1), (2, ptr b3), (3, ptr b4), (11, ptr b11)]) (fun i => [(b11, .mapIter (some bm) clock i.1 clock)] :: η) (fun i => m.length - i.2.length) (#[], []) ⟨ItOk.start m es, by simp, by simp, by simp⟩ ⟨rfl, rfl, rfl, rfl, rfl, trivial⟩ rfl ?_
  rintro ⟨seen, done⟩ ⟨hit, hnd, hsub, hok⟩
  simp only at hit hnd hsub hok
  refine T.seq ?_
  refine T.region ?_
  refine TL.next hF 0 rfl rfl (List.mem_cons_of_mem _ hwm) hwo hit rfl (fun hover => ?_) (fun p12 seen12 hp12 hnd12 hit12 hent12 => ?_)
  · refine TL.extract hF rfl rfl rfl ?_
    refine TL.nil ?_
    refine TQ.then_n ?_
    refine T.seq ?_
    refine T.cond_f rfl rfl ?_
    refine T.exit ?_
    refine TQ.then_x ?_
    refine TQ.then_x ?_
    refine TQ.block_x ?_
    refine TQ.then_n ?_
    refine T.seq ?_
    refine T.region ?_
    refine TL.assign hF rfl rfl ?_
    refine TL.nil ?_
    refine TQ.then_n ?_
    refine T.ret ?_
    refine TQ.pop ?_
    refine TQ.rets [5] _ rfl rfl rfl ?_
    refine ⟨true, rfl, rfl, ⟨fun _ x y hx hy he h1 h2 => ?_, fun _ => rfl⟩⟩
    have hin := hw.ok.has (a := x) (b := y) he
    have h3 := hok _ hin (hover _ hin)
    simp only [Int.toNat_natCast] at h3
    exact h3 h1 h2
  · refine TL.extract hF rfl rfl rfl ?_
    refine TL.nil ?_
    refine TQ.then_n ?_
    refine T.seq ?_
    refine T.cond_t rfl rfl ?_
    refine T.skip ?_
    refine TQ.then_n ?_
    refine T.block ?_
    refine T.seq ?_
    refine T.region ?_
    refine TL.entry hF rfl List.mem_cons_self (List.mem_cons_of_mem _ hwm) hwo hent12 (K := KU) (V := Value.bool) (p := p12) rfl ?_
    refine TL.extract hF rfl rfl rfl ?_
    refine TL.alloc hF rfl (fun b6 => ?_)
    refine TL.storeAI hF [.int .i64 p12.1.1, .int .i64 p12.1.2] 0 rfl rfl rfl rfl (by simp [Value.oneCell']) (by simp [Value.cells]) ?_
    refine TL.nil ?_
    refine TQ.then_n ?_
    refine T.seq ?_
    refine T.region ?_
    obtain ⟨hu, hpd⟩ := hw.ok.entry hwo.nd hp12
    obtain ⟨⟨ha0, han⟩, hb0, hbn⟩ := hU.rg _ _ hu
    refine TL.load hF rfl (own_mem (upc _ (upc _ hc3)) rfl) rfl ?_
    refine TL.fieldAddr hF rfl rfl ?_
    refine TL.load hF rfl (own_list (i := 0) (cs := [.int .i64 p12.1.1, .int .i64 p12.1.2]) rfl 0 _ rfl) rfl ?_
    refine TL.indexAddr hF rfl rfl ⟨_, rfl, rfl⟩ (by omega) (by omega) rfl ?_
    refine TL.load hF rfl (iseg_at (f := (fun i => ((ofS (EN U) n i : Nat) : Int))) (n := n) (b := bo) (j := p12.1.1.toNat) (upc _ (upc _ hco)) (by omega)) rfl ?_
    refine TL.move hF rfl rfl ?_
    refine TL.bin hF rfl rfl rfl rfl ?_
    refine TL.move hF rfl rfl ?_
    refine TL.gd (t := 23) rfl (fun g4_23 => ?_) (fun g4_23 => ?_)
    · refine TL.on rfl rfl rfl (decide_eq_true g4_23) ?_
      refine TL.load hF rfl (own_mem (upc _ (upc _ hc3)) rfl) rfl ?_
      refine TL.on rfl rfl rfl (decide_eq_true g4_23) ?_
      refine TL.fieldAddr hF rfl rfl ?_
      refine TL.on rfl rfl rfl (decide_eq_true g4_23) ?_
      refine TL.load hF rfl (own_list (i := 0) (cs := [.int .i64 p12.1.1, .int .i64 p12.1.2]) rfl 1 _ rfl) rfl ?_
      refine TL.on rfl rfl rfl (decide_eq_true g4_23) ?_
      refine TL.indexAddr hF rfl rfl ⟨_, rfl, rfl⟩ (by omega) (by omega) rfl ?_
      refine TL.on rfl rfl rfl (decide_eq_true g4_23) ?_
      refine TL.load hF rfl (iseg_at (f := (fun i => ((ofS (EN U) n i : Nat) : Int))) (n := n) (b := bo) (j := p12.1.2.toNat) (upc _ (upc _ hco)) (by omega)) rfl ?_
      refine TL.on rfl rfl rfl (decide_eq_true g4_23) ?_
      refine TL.move hF rfl rfl ?_
      refine TL.on rfl rfl rfl (decide_eq_true g4_23) ?_
      refine TL.bin hF rfl rfl rfl rfl ?_
      refine TL.pickT hF rfl (decide_eq_true g4_23) rfl rfl ?_
      refine TL.move hF rfl rfl ?_
      refine TL.gd (t := 32) rfl (fun g4_32 => ?_) (fun g4_32 => ?_)
      · refine TL.on rfl rfl rfl (decide_eq_true g4_32) ?_
        refine TL.load hF rfl (own_mem (upc _ (upc _ hc4)) rfl) rfl ?_
        refine TL.on rfl rfl rfl (decide_eq_true g4_32) ?_
        refine TL.fieldAddr hF rfl rfl ?_
        refine TL.on rfl rfl rfl (decide_eq_true g4_32) ?_
        refine TL.load hF rfl (own_list (i := 0) (cs := [.int .i64 p12.1.1, .int .i64 p12.1.2]) rfl 1 _ rfl) rfl ?_
        refine TL.on rfl rfl rfl (decide_eq_true g4_32) ?_
        refine TL.indexAddr hF rfl rfl ⟨_, rfl, rfl⟩ (by omega) (by omega) rfl ?_
        refine TL.on rfl rfl rfl (decide_eq_true g4_32) ?_
        refine TL.load hF rfl (dseg_at (D := D) (n := n) (b := bd) (j := p12.1.2.toNat) (upc _ (upc _ hcd)) (by omega)) rfl ?_
        refine TL.on rfl rfl rfl (decide_eq_true g4_32) ?_
        refine TL.not hF rfl rfl ?_
        refine TL.pickT hF rfl (decide_eq_true g4_32) rfl rfl ?_
        refine TL.nil ?_
        refine TQ.then_n ?_
        refine T.cond _ rfl (fun ht39 => ?_) (fun ht39 => ?_)
        · refine T.seq ?_
          refine T.region ?_
          refine TL.assign hF rfl rfl ?_
          refine TL.nil ?_
          refine TQ.then_n ?_
          refine T.ret ?_
          refine TQ.block_r ?_
          refine TQ.then_r ?_
          refine TQ.block_r ?_
          refine TQ.then_r ?_
          refine TQ.hsub η (List.Sublist.cons _ (List.sublist_cons_self _ _)) ?_
          refine TQ.rets [5] _ rfl rfl rfl ?_
          refine ⟨false, rfl, rfl, ?_⟩
          constructor
          · intro h; cases h
          · intro h
            have h2 := h p12.1.1.toNat p12.1.2.toNat (by omega) (by omega) (by show U (p12.1.1.toNat : Nat) (p12.1.2.toNat : Nat) false = true; rw [show ((p12.1.1.toNat : Nat) : Int) = p12.1.1 by omega, show ((p12.1.2.toNat : Nat) : Int) = p12.1.2 by omega]; exact hu) (by omega) (by omega)
            simp_all
        · refine T.skip ?_
          refine TQ.block_n ?_
          have hlt := done_len hnd hsub hp12 hnd12
          refine TQ.pop ?_
          refine TQ.round (seen12, p12.1 :: done) ⟨hit12, List.nodup_cons.2 ⟨hnd12, hnd⟩, fun x hx => ?_, fun p hp hpd2 ht ht2 => ?_⟩ (by simp only [List.length_cons]; omega) ⟨rfl, rfl, rfl, rfl, rfl, trivial⟩ rfl
          · rcases List.mem_cons.1 hx with rfl | hx
            · exact List.mem_map.2 ⟨_, hp12, rfl⟩
            · exact hsub x hx
          · rcases List.mem_cons.1 hpd2 with he | hx
            · rw [he] at ht ht2 ⊢; first | omega | simpa using ht39
            · exact hok p hp hx ht ht2
      · refine TL.off hF rfl rfl rfl (decide_eq_false g4_32) rfl ?_
        refine TL.off hF rfl rfl rfl (decide_eq_false g4_32) rfl ?_
        refine TL.off hF rfl rfl rfl (decide_eq_false g4_32) rfl ?_
        refine TL.off hF rfl rfl rfl (decide_eq_false g4_32) rfl ?_
        refine TL.off hF rfl rfl rfl (decide_eq_false g4_32) rfl ?_
        refine TL.off hF rfl rfl rfl (decide_eq_false g4_32) rfl ?_
        refine TL.pickF hF rfl (decide_eq_false g4_32) rfl rfl ?_
        refine TL.nil ?_
        refine TQ.then_n ?_
        refine T.cond_f rfl rfl ?_
        refine T.skip ?_
        refine TQ.block_n ?_
        have hlt := done_len hnd hsub hp12 hnd12
        refine TQ.pop ?_
        refine TQ.round (seen12, p12.1 :: done) ⟨hit12, List.nodup_cons.2 ⟨hnd12, hnd⟩, fun x hx => ?_, fun p hp hpd2 ht ht2 => ?_⟩ (by simp only [List.length_cons]; omega) ⟨rfl, rfl, rfl, rfl, rfl, trivial⟩ rfl
        · rcases List.mem_cons.1 hx with rfl | hx
          · exact List.mem_map.2 ⟨_, hp12, rfl⟩
          · exact hsub x hx
        · rcases List.mem_cons.1 hpd2 with he | hx
          · rw [he] at ht ht2 ⊢; first | omega | simpa using ht39
          · exact hok p hp hx ht ht2
    · refine TL.off hF rfl rfl rfl (decide_eq_false g4_23) rfl ?_
      refine TL.off hF rfl rfl rfl (decide_eq_false g4_23) rfl ?_
      refine TL.off hF rfl rfl rfl (decide_eq_false g4_23) rfl ?_
      refine TL.off hF rfl rfl rfl (decide_eq_false g4_23) rfl ?_
      refine TL.off hF rfl rfl rfl (decide_eq_false g4_23) rfl ?_
      refine TL.off hF rfl rfl rfl (decide_eq_false g4_23) rfl ?_
      refine TL.off hF rfl rfl rfl (decide_eq_false g4_23) rfl ?_
      refine TL.pickF hF rfl (decide_eq_false g4_23) rfl rfl ?_
      refine TL.move hF rfl rfl ?_
      refine TL.off hF rfl rfl rfl rfl rfl ?_
      refine TL.off hF rfl rfl rfl rfl rfl ?_
      refine TL.off hF rfl rfl rfl rfl rfl ?_
      refine TL.off hF rfl rfl rfl rfl rfl ?_
      refine TL.off hF rfl rfl rfl rfl rfl ?_
      refine TL.off hF rfl rfl rfl rfl rfl ?_
      refine TL.pickF hF rfl rfl rfl rfl ?_
      refine TL.nil ?_
      refine TQ.then_n ?_
      refine T.cond_f rfl rfl ?_
      refine T.skip ?_
      refine TQ.block_n ?_
      have hlt := done_len hnd hsub hp12 hnd12
      refine TQ.pop ?_
      refine TQ.round (seen12, p12.1 :: done) ⟨hit12, List.nodup_cons.2 ⟨hnd12, hnd⟩, fun x hx => ?_, fun p hp hpd2 ht ht2 => ?_⟩ (by simp only [List.length_cons]; omega) ⟨rfl, rfl, rfl, rfl, rfl, trivial⟩ rfl
      · rcases List.mem_cons.1 hx with rfl | hx
        · exact List.mem_map.2 ⟨_, hp12, rfl⟩
        · exact hsub x hx
      · rcases List.mem_cons.1 hpd2 with he | hx
        · rw [he] at ht ht2 ⊢; first | omega | simpa using ht39
        · exact hok p hp hx ht ht2
/-- The program's choice is the document's. -/
theorem RP_ready {E : Nat → Nat → Bool} {n b : Nat} {done : List Nat} (hg : GoodD n (fwM E n) done) (hb : b < n) (ho : ofS E n b = b) (hd : b ∉ done) (hr : RP E n (fun x => done.contains x) b) : readyS n (fwM E n) done b = true := by
  refine readyS_iff.2 ⟨hd, fun y hy hm => ?_⟩
  refine fw_least (fun x => x ∈ blockS n (fwM E n) b ∨ x ∈ done) ?_ (Nat.le_refl n) hb hy (.inl (self_block hb)) hm
  intro x y hx hy hX he
  rcases hX with hX | hX
  · have hox : ofS E n x = b := by
      obtain ⟨_, h⟩ := mem_blockS.1 hX
      have h2 := (ofS_eq (E := E) hb hx).2 h
      rw [← h2, ho]
    by_cases hoy : ofS E n y = b
    · exact .inl (mem_blockS.2 ⟨hy, (ofS_eq (E := E) hb hy).1 (by rw [ho, hoy])⟩)
    · have := hr x y hx hy he hox hoy
      exact .inr (by simpa using this)
  · exact .inr (hg.cl x hX y hy (fw_E he))
theorem ready_RP {E : Nat → Nat → Bool} {n b : Nat} {done : List Nat} (hb : b < n) (ho : ofS E n b = b) (hr : readyS n (fwM E n) done b = true) : RP E n (fun x => done.contains x) b := by
  intro x y hx hy he hox hoy
  obtain ⟨_, h2⟩ := readyS_iff.1 hr
  have hby : fwM E n b y = true := by
    rcases (ofS_eq (E := E) hb hx).1 (by rw [ho, hox]) with h | ⟨h, _⟩
    · rw [h]; exact fw_E he
    · exact fw_trans hx h (fw_E he)
  rcases h2 y hy hby with h | h
  · exfalso
    obtain ⟨_, h⟩ := mem_blockS.1 h
    have := (ofS_eq (E := E) hb hy).2 h
    omega
  · simpa using h
theorem ready_head {E : Nat → Nat → Bool} {n b : Nat} {done : List Nat} (hg : GoodD n (fwM E n) done) (hb : b < n) (hr : readyS n (fwM E n) done b = true) : ofS E n b < n ∧ readyS n (fwM E n) done (ofS E n b) = true ∧ ofS E n (ofS E n b) = ofS E n b := by
  have hle := ofS_le (E := E) (n := n) (r := b)
  obtain ⟨h1, h2⟩ := readyS_iff.1 hr
  rcases ofS_in (E := E) (n := n) (r := b) with h | ⟨h3, h4⟩
  · rw [h]; exact ⟨hb, hr, h⟩
  · refine ⟨by omega, readyS_iff.2 ⟨fun hd => h1 (hg.cl _ hd b hb h4), fun y hy hm => ?_⟩, (ofS_eq (by omega) hb).2 (.inr ⟨h4, h3⟩)⟩
    rcases h2 y hy (fw_trans (by omega) h3 hm) with h | h
    · left
      obtain ⟨_, h⟩ := mem_blockS.1 h
      refine mem_blockS.2 ⟨hy, ?_⟩
      rcases h with h | ⟨h5, h6⟩
      · subst h; exact .inr ⟨h4, h3⟩
      · exact .inr ⟨fw_trans hb h4 h5, fw_trans hb h6 h3⟩
    · exact .inr h
theorem head_block {E : Nat → Nat → Bool} {n b : Nat} (hb : b < n) (ho : ofS E n b = b) : (List.range n).filter (fun r => decide (ofS E n r = b)) = blockS n (fwM E n) b := by
  unfold blockS
  apply List.filter_congr
  intro r hr
  have hr : r < n := by simpa using hr
  rw [Bool.eq_iff_iff]
  simp only [decide_eq_true_eq, Bool.or_eq_true, beq_iff_eq, Bool.and_eq_true]
  have := ofS_eq (E := E) hb hr
  rw [ho] at this
  constructor
  · intro h; exact this.1 h.symm
  · intro h; exact (this.2 h).symm

end Go.Proofs.Ytdehpaikapbckaa
