/- Several texts in one. -/
import Derived.Test.YtdehpaikapbckaaPd
import Derived.Test.YtdehpaikapbckaaPb
/- The program's blocks. -/
namespace Go.Proofs.Ytdehpaikapbckaa
open Go.Sl
variable {S : Nat → Prop} {w0 : World} {η : Heap}
abbrev dseg (b n : Nat) (D : Nat → Bool) : Seg := [(b, .cells (rowC n D).toArray 4 (0, 0))]
theorem dseg_at {b n j : Nat} {D : Nat → Bool} (h : dseg b n D ∈ η) (hj : j < n) : At S w0 η (sAt (some ⟨b, 0, none⟩) (j * 1)) (.bool (D j)) := by
  rw [Nat.mul_one]; exact (row_own h).cell j _ (rowC_get hj)
def ReadyC (b1 b3 b4 bo bd bw n : Nat) (U : Int → Int → Bool → Bool) (m : List ((Int × Int) × Bool)) (D : Nat → Bool) (η : Heap) : Prop :=
  [(b1, Obj.cells #[ptr bw] 59 (0, 0))] ∈ η ∧ [(b3, Obj.cells #[.slice (some ⟨bo, 0, none⟩) n n] 23 (0, 0))] ∈ η ∧ [(b4, Obj.cells #[.slice (some ⟨bd, 0, none⟩) n n] 42 (0, 0))] ∈ η ∧ iseg bo n (fun i => ((ofS (EN U) n i : Nat) : Int)) ∈ η ∧ dseg bd n D ∈ η ∧ Web η bw n U m
/-- A block may come next. -/
def RP (E : Nat → Nat → Bool) (n : Nat) (D : Nat → Bool) (b : Nat) : Prop := ∀ x y, x < n → y < n → E x y = true → ofS E n x = b → ofS E n y ≠ b → D y = true

set_option maxHeartbeats 2000000 in
theorem ready_fn {b1 b3 b4 bo bd bw n b : Nat} {U : Int → Int → Bool → Bool} {m : List ((Int × Int) × Bool)} {D : Nat → Bool} (_hn : n ≤ 48) (hU : UOk U n) (hc : ReadyC b1 b3 b4 bo bd bw n U m D η) :
    Rt Try.prog 56 [.int .i64 (b : Int), ptr b1, ptr b3, ptr b4].toArray S w0 η (fun v η' => ∃ r, v = .bool r ∧ η' = η ∧ (r = true ↔ RP (EN U) n D b)) := by
  have hF := open_wide
  refine Rt.of (fn := Try.f56) Try.func56 rfl rfl ?_
  refine T.seq ?_
  refine T.region ?_
  refine TL.assign hF rfl rfl ?_
  refine TL.nil ?_
  refine TQ.then_n ?_
  refine T.seq ?_
  refine T.seq ?_
  refine T.region ?_
  obtain ⟨hc1, hc3, hc4, hco, hcd, hw⟩ := hc
  obtain ⟨bm, es, clock, hws, hwm, hwo⟩ := hw.ex
  refine TL.load hF rfl (own_mem hc1 rfl) rfl ?_
  refine TL.nilCheck hF rfl rfl ?_
  refine TL.fieldAddr hF rfl rfl ?_
  refine TL.load hF rfl (own_mem hws rfl) rfl ?_
  refine TL.range hF rfl hwm rfl (fun b11 => ?_)
  refine TL.nil ?_
  refine TQ.then_n ?_
  refine T.block ?_
  refine T.loop (ι := Array Nat × List (Int × Int)) (fun i => ItOk m es i.1 i.2 ∧ i.2.Nodup ∧ (∀ x ∈ i.2, x ∈ m.map (·.1)) ∧ ∀ p ∈ m, p.1 ∈ i.2 → ofS (EN U) n p.1.1.toNat = b → ofS (EN U) n p.1.2.toNat ≠ b → D p.1.2.toNat = true) (fun i => [(0, .int .i64 (b : Int)), (1, ptr b1), (2, ptr b3), (3, ptr b4), (11, ptr b11)]) (fun i => [(b11, .mapIter (some bm) clock i.1 clock)] :: η) (fun i => m.length - i.2.length) (#[], []) ⟨ItOk.start m es, by simp, by simp, by simp⟩ ⟨rfl, rfl, rfl, rfl, rfl, trivial⟩ rfl ?_
  rintro ⟨seen, done⟩ ⟨hit, hnd, hsub, hok⟩
  simp only at hit hnd hsub hok
  refine T.seq ?_
  refine T.region ?_
  refine TL.next hF 0 rfl rfl (List.mem_cons_of_mem _ hwm) hwo hit rfl (fun hover => ?_) (fun p12 seen12 hp12 hnd12 hit12 hent12 => ?_)
  · refine TL.extract hF rfl rfl rfl ?_
    refine TL.nil ?_
    refine TQ.then_n ?_
    refine T.seq ?_
    refine T.cond_f rfl rfl ?_
    refine T.exit ?_
    refine TQ.then_x ?_
    refine TQ.then_x ?_
    refine TQ.block_x ?_
    refine TQ.then_n ?_
    refine T.seq ?_
    refine T.region ?_
    refine TL.assign hF rfl rfl ?_
    refine TL.nil ?_
    refine TQ.then_n ?_
    refine T.ret ?_
    refine TQ.pop ?_
    refine TQ.rets [5] _ rfl rfl rfl ?_
    refine ⟨true, rfl, rfl, ⟨fun _ x y hx hy he h1 h2 => ?_, fun _ => rfl⟩⟩
    have hin := hw.ok.has (a := x) (b := y) he
    have h3 := hok _ hin (hover _ hin)
    simp only [Int.toNat_natCast] at h3
    exact h3 h1 h2
  · refine TL.extract hF rfl rfl rfl ?_
    refine TL.nil ?_
    refine TQ.then_n ?_
    refine T.seq ?_
    refine T.cond_t rfl rfl ?_
    refine T.skip ?_
    refine TQ.then_n ?_
    refine T.block ?_
    refine T.seq ?_
    refine T.region ?_
    refine TL.entry hF rfl List.mem_cons_self (List.mem_cons_of_mem _ hwm) hwo hent12 (K := KU) (V := Value.bool) (p := p12) rfl ?_
    refine TL.extract hF rfl rfl rfl ?_
    refine TL.alloc hF rfl (fun b6 => ?_)
    refine TL.storeAI hF [.int .i64 p12.1.1, .int .i64 p12.1.2] 0 rfl rfl rfl rfl (by simp [Value.oneCell']) (by simp [Value.cells]) ?_
    refine TL.nil ?_
    refine TQ.then_n ?_
    refine T.seq ?_
    refine T.region ?_
    obtain ⟨hu, hpd⟩ := hw.ok.entry hwo.nd hp12
    obtain ⟨⟨ha0, han⟩, hb0, hbn⟩ := hU.rg _ _ hu
    refine TL.load hF rfl (own_mem (upc _ (upc _ hc3)) rfl) rfl ?_
    refine TL.fieldAddr hF rfl rfl ?_
    refine TL.load hF rfl (own_list (i := 0) (cs := [.int .i64 p12.1.1, .int .i64 p12.1.2]) rfl 0 _ rfl) rfl ?_
    refine TL.indexAddr hF rfl rfl ⟨_, rfl, rfl⟩ (by omega) (by omega) rfl ?_
    refine TL.load hF rfl (iseg_at (f := (fun i => ((ofS (EN U) n i : Nat) : Int))) (n := n) (b := bo) (j := p12.1.1.toNat) (upc _ (upc _ hco)) (by omega)) rfl ?_
    refine TL.move hF rfl rfl ?_
    refine TL.bin hF rfl rfl rfl rfl ?_
    refine TL.move hF rfl rfl ?_
    refine TL.gd (t := 23) rfl (fun g4_23 => ?_) (fun g4_23 => ?_)
    · refine TL.on rfl rfl rfl (decide_eq_true g4_23) ?_
      refine TL.load hF rfl (own_mem (upc _ (upc _ hc3)) rfl) rfl ?_
      refine TL.on rfl rfl rfl (decide_eq_true g4_23) ?_
      refine TL.fieldAddr hF rfl rfl ?_
      refine TL.on rfl rfl rfl (decide_eq_true g4_23) ?_
      refine TL.load hF rfl (own_list (i := 0) (cs := [.int .i64 p12.1.1, .int .i64 p12.1.2]) rfl 1 _ rfl) rfl ?_
      refine TL.on rfl rfl rfl (decide_eq_true g4_23) ?_
      refine TL.indexAddr hF rfl rfl ⟨_, rfl, rfl⟩ (by omega) (by omega) rfl ?_
      refine TL.on rfl rfl rfl (decide_eq_true g4_23) ?_
      refine TL.load hF rfl (iseg_at (f := (fun i => ((ofS (EN U) n i : Nat) : Int))) (n := n) (b := bo) (j := p12.1.2.toNat) (upc _ (upc _ hco)) (by omega)) rfl ?_
      refine TL.on rfl rfl rfl (decide_eq_true g4_23) ?_
      refine TL.move hF rfl rfl ?_
      refine TL.on rfl rfl rfl (decide_eq_true g4_23) ?_
      refine TL.bin hF rfl rfl rfl rfl ?_
      refine TL.pickT hF rfl (decide_eq_true g4_23) rfl rfl ?_
      refine TL.move hF rfl rfl ?_
      refine TL.gd (t := 32) rfl (fun g4_32 => ?_) (fun g4_32 => ?_)
      · refine TL.on rfl rfl rfl (decide_eq_true g4_32) ?_
        refine TL.load hF rfl (own_mem (upc _ (upc _ hc4)) rfl) rfl ?_
        refine TL.on rfl rfl rfl (decide_eq_true g4_32) ?_
        refine TL.fieldAddr hF rfl rfl ?_
        refine TL.on rfl rfl rfl (decide_eq_true g4_32) ?_
        refine TL.load hF rfl (own_list (i := 0) (cs := [.int .i64 p12.1.1, .int .i64 p12.1.2]) rfl 1 _ rfl) rfl ?_
        refine TL.on rfl rfl rfl (decide_eq_true g4_32) ?_
        refine TL.indexAddr hF rfl rfl ⟨_, rfl, rfl⟩ (by omega) (by omega) rfl ?_
        refine TL.on rfl rfl rfl (decide_eq_true g4_32) ?_
        refine TL.load hF rfl (dseg_at (D := D) (n := n) (b := bd) (j := p12.1.2.toNat) (upc _ (upc _ hcd)) (by omega)) rfl ?_
        refine TL.on rfl rfl rfl (decide_eq_true g4_32) ?_
        refine TL.not hF rfl rfl ?_
        refine TL.pickT hF rfl (decide_eq_true g4_32) rfl rfl ?_
        refine TL.nil ?_
        refine TQ.then_n ?_
        refine T.cond _ rfl (fun ht39 => ?_) (fun ht39 => ?_)
        · refine T.seq ?_
          refine T.region ?_
          refine TL.assign hF rfl rfl ?_
          refine TL.nil ?_
          refine TQ.then_n ?_
          refine T.ret ?_
          refine TQ.block_r ?_
          refine TQ.then_r ?_
          refine TQ.block_r ?_
          refine TQ.then_r ?_
          refine TQ.hsub η (List.Sublist.cons _ (List.sublist_cons_self _ _)) ?_
          refine TQ.rets [5] _ rfl rfl rfl ?_
          refine ⟨false, rfl, rfl, ?_⟩
          constructor
          · intro h; cases h
          · intro h
            have h2 := h p12.1.1.toNat p12.1.2.toNat (by omega) (by omega) (by show U (p12.1.1.toNat : Nat) (p12.1.2.toNat : Nat) false = true; rw [show ((p12.1.1.toNat : Nat) : Int) = p12.1.1 by omega, show ((p12.1.2.toNat : Nat) : Int) = p12.1.2 by omega]; exact hu) (by omega) (by omega)
            simp_all
        · refine T.skip ?_
          refine TQ.block_n ?_
          have hlt := done_len hnd hsub hp12 hnd12
          refine TQ.pop ?_
          refine TQ.round (seen12, p12.1 :: done) ⟨hit12, List.nodup_cons.2 ⟨hnd12, hnd⟩, fun x hx => ?_, fun p hp hpd2 ht ht2 => ?_⟩ (by simp only [List.length_cons]; omega) ⟨rfl, rfl, rfl, rfl, rfl, trivial⟩ rfl
          · rcases List.mem_cons.1 hx with rfl | hx
            · exact List.mem_map.2 ⟨_, hp12, rfl⟩
            · exact hsub x hx
          · rcases List.mem_cons.1 hpd2 with he | hx
            · rw [he] at ht ht2 ⊢; first | omega | simpa using ht39
            · exact hok p hp hx ht ht2
      · refine TL.off hF rfl rfl rfl (decide_eq_false g4_32) rfl ?_
        refine TL.off hF rfl rfl rfl (decide_eq_false g4_32) rfl ?_
        refine TL.off hF rfl rfl rfl (decide_eq_false g4_32) rfl ?_
        refine TL.off hF rfl rfl rfl (decide_eq_false g4_32) rfl ?_
        refine TL.off hF rfl rfl rfl (decide_eq_false g4_32) rfl ?_
        refine TL.off hF rfl rfl rfl (decide_eq_false g4_32) rfl ?_
        refine TL.pickF hF rfl (decide_eq_false g4_32) rfl rfl ?_
        refine TL.nil ?_
        refine TQ.then_n ?_
        refine T.cond_f rfl rfl ?_
        refine T.skip ?_
        refine TQ.block_n ?_
        have hlt := done_len hnd hsub hp12 hnd12
        refine TQ.pop ?_
        refine TQ.round (seen12, p12.1 :: done) ⟨hit12, List.nodup_cons.2 ⟨hnd12, hnd⟩, fun x hx => ?_, fun p hp hpd2 ht ht2 => ?_⟩ (by simp only [List.length_cons]; omega) ⟨rfl, rfl, rfl, rfl, rfl, trivial⟩ rfl
        · rcases List.mem_cons.1 hx with rfl | hx
          · exact List.mem_map.2 ⟨_, hp12, rfl⟩
          · exact hsub x hx
        · rcases List.mem_cons.1 hpd2 with he | hx
          · rw [he] at ht ht2 ⊢; first | omega | simpa using ht39
          · exact hok p hp hx ht ht2
    · refine TL.off hF rfl rfl rfl (decide_eq_false g4_23) rfl ?_
      refine TL.off hF rfl rfl rfl (decide_eq_false g4_23) rfl ?_
      refine TL.off hF rfl rfl rfl (decide_eq_false g4_23) rfl ?_
      refine TL.off hF rfl rfl rfl (decide_eq_false g4_23) rfl ?_
      refine TL.off hF rfl rfl rfl (decide_eq_false g4_23) rfl ?_
      refine TL.off hF rfl rfl rfl (decide_eq_false g4_23) rfl ?_
      refine TL.off hF rfl rfl rfl (decide_eq_false g4_23) rfl ?_
      refine TL.pickF hF rfl (decide_eq_false g4_23) rfl rfl ?_
      refine TL.move hF rfl rfl ?_
      refine TL.off hF rfl rfl rfl rfl rfl ?_
      refine TL.off hF rfl rfl rfl rfl rfl ?_
      refine TL.off hF rfl rfl rfl rfl rfl ?_
      refine TL.off hF rfl rfl rfl rfl rfl ?_
      refine TL.off hF rfl rfl rfl rfl rfl ?_
      refine TL.off hF rfl rfl rfl rfl rfl ?_
      refine TL.pickF hF rfl rfl rfl rfl ?_
      refine TL.nil ?_
      refine TQ.then_n ?_
      refine T.cond_f rfl rfl ?_
      refine T.skip ?_
      refine TQ.block_n ?_
      have hlt := done_len hnd hsub hp12 hnd12
      refine TQ.pop ?_
      refine TQ.round (seen12, p12.1 :: done) ⟨hit12, List.nodup_cons.2 ⟨hnd12, hnd⟩, fun x hx => ?_, fun p hp hpd2 ht ht2 => ?_⟩ (by simp only [List.length_cons]; omega) ⟨rfl, rfl, rfl, rfl, rfl, trivial⟩ rfl
      · rcases List.mem_cons.1 hx with rfl | hx
        · exact List.mem_map.2 ⟨_, hp12, rfl⟩
        · exact hsub x hx
      · rcases List.mem_cons.1 hpd2 with he | hx
        · rw [he] at ht ht2 ⊢; first | omega | simpa using ht39
        · exact hok p hp hx ht ht2
/-- The program's choice is the document's. -/
theorem RP_ready {E : Nat → Nat → Bool} {n b : Nat} {done : List Nat} (hg : GoodD n (fwM E n) done) (hb : b < n) (ho : ofS E n b = b) (hd : b ∉ done) (hr : RP E n (fun x => done.contains x) b) : readyS n (fwM E n) done b = true := by
  refine readyS_iff.2 ⟨hd, fun y hy hm => ?_⟩
  refine fw_least (fun x => x ∈ blockS n (fwM E n) b ∨ x ∈ done) ?_ (Nat.le_refl n) hb hy (.inl (self_block hb)) hm
  intro x y hx hy hX he
  rcases hX with hX | hX
  · have hox : ofS E n x = b := by
      obtain ⟨_, h⟩ := mem_blockS.1 hX
      have h2 := (ofS_eq (E := E) hb hx).2 h
      rw [← h2, ho]
    by_cases hoy : ofS E n y = b
    · exact .inl (mem_blockS.2 ⟨hy, (ofS_eq (E := E) hb hy).1 (by rw [ho, hoy])⟩)
    · have := hr x y hx hy he hox hoy
      exact .inr (by simpa using this)
  · exact .inr (hg.cl x hX y hy (fw_E he))
theorem ready_RP {E : Nat → Nat → Bool} {n b : Nat} {done : List Nat} (hb : b < n) (ho : ofS E n b = b) (hr : readyS n (fwM E n) done b = true) : RP E n (fun x => done.contains x) b := by
  intro x y hx hy he hox hoy
  obtain ⟨_, h2⟩ := readyS_iff.1 hr
  have hby : fwM E n b y = true := by
    rcases (ofS_eq (E := E) hb hx).1 (by rw [ho, hox]) with h | ⟨h, _⟩
    · rw [h]; exact fw_E he
    · exact fw_trans hx h (fw_E he)
  rcases h2 y hy hby with h | h
  · exfalso
    obtain ⟨_, h⟩ := mem_blockS.1 h
    have := (ofS_eq (E := E) hb hy).2 h
    omega
  · simpa using h
theorem ready_head {E : Nat → Nat → Bool} {n b : Nat} {done : List Nat} (hg : GoodD n (fwM E n) done) (hb : b < n) (hr : readyS n (fwM E n) done b = true) : ofS E n b < n ∧ readyS n (fwM E n) done (ofS E n b) = true ∧ ofS E n (ofS E n b) = ofS E n b := by
  have hle := ofS_le (E := E) (n := n) (r := b)
  obtain ⟨h1, h2⟩ := readyS_iff.1 hr
  rcases ofS_in (E := E) (n := n) (r := b) with h | ⟨h3, h4⟩
  · rw [h]; exact ⟨hb, hr, h⟩
  · refine ⟨by omega, readyS_iff.2 ⟨fun hd => h1 (hg.cl _ hd b hb h4), fun y hy hm => ?_⟩, (ofS_eq (by omega) hb).2 (.inr ⟨h4, h3⟩)⟩
    rcases h2 y hy (fw_trans (by omega) h3 hm) with h | h
    · left
      obtain ⟨_, h⟩ := mem_blockS.1 h
      refine mem_blockS.2 ⟨hy, ?_⟩
      rcases h with h | ⟨h5, h6⟩
      · subst h; exact .inr ⟨h4, h3⟩
      · exact .inr ⟨fw_trans hb h4 h5, fw_trans hb h6 h3⟩
    · exact .inr h
theorem head_block {E : Nat → Nat → Bool} {n b : Nat} (hb : b < n) (ho : ofS E n b = b) : (List.range n).filter (fun r => decide (ofS E n r = b)) = blockS n (fwM E n) b := by
  unfold blockS
  apply List.filter_congr
  intro r hr
  have hr : r < n := by simpa using hr
  rw [Bool.eq_iff_iff]
  simp only [decide_eq_true_eq, Bool.or_eq_true, beq_iff_eq, Bool.and_eq_true]
  have := ofS_eq (E := E) hb hr
  rw [ho] at this
  constructor
  · intro h; exact this.1 h.symm
  · intro h; exact (this.2 h).symm

end Go.Proofs.Ytdehpaikapbckaa
/- The program's order of blocks. -/
namespace Go.Proofs.Ytdehpaikapbckaa
open Go.Sl
variable {S : Nat → Prop} {w0 : World} {η : Heap}
structure PSt where
  f : Nat
  done : List Nat
  outs : List (Value × List Nat × Seg)
  oa : Option Addr
  oc : Nat
  og : Seg
def PSt.fakeA (_s : PSt) : Option Addr := some ⟨0, 0, none⟩
def PSt.fakeG (s : PSt) : Seg := [(0, .cells (nats s.done).toArray 3 (0, 0))]
theorem PSt.fake (s : PSt) : OSl 3 1 (.slice s.fakeA s.done.length s.done.length) s.done.length (nats s.done) s.fakeG :=
  ⟨by simp, .inr ⟨0, s.done.length, (nats s.done).toArray, rfl, rfl, Nat.le_refl _, by simp, by rw [Nat.mul_one]; exact List.take_of_length_le (by simp)⟩⟩
structure PSt.Ok (n : Nat) (M : Nat → Nat → Bool) (s : PSt) : Prop where
  good : GoodD n M s.done
  outs : ∀ t ∈ s.outs, OSl 3 1 t.1 t.2.1.length (nats t.2.1) t.2.2
  same : orderS n M n [] = s.outs.map (·.2.1) ++ orderS n M s.f s.done
  fuel : n ≤ s.f + s.done.length
  len : s.outs.length ≤ s.done.length
  o : OSl 23 1 (.slice s.oa s.outs.length s.oc) s.outs.length (s.outs.map (·.1)) s.og
theorem PSt.Ok.lists {n : Nat} {M : Nat → Nat → Bool} {s : PSt} (h : s.Ok n M) : OutL S w0 (s.outs.map (·.2.2) ++ [s.og]) s.oa (s.outs.map (·.2.1)) :=
  OSt.Ok.lists (n := n) (M := M) (s := ⟨s.f, s.done, s.outs, s.oa, s.oc, s.og, s.fakeA, s.done.length, s.fakeG⟩) ⟨h.good, h.outs, h.same, h.fuel, h.len, h.o, s.fake⟩
def T4 (b1 b3 b4 bo bd bw n : Nat) (U : Int → Int → Bool → Bool) (η : Heap) : Heap := [(b4, .cells #[.slice (some ⟨bd, 0, none⟩) n n] 42 (0, 0))] :: [(b3, .cells #[.slice (some ⟨bo, 0, none⟩) n n] 23 (0, 0))] :: iseg bo n (fun i => ((ofS (EN U) n i : Nat) : Int)) :: [(b1, .cells #[ptr bw] 59 (0, 0))] :: η
def PSt.hp (s : PSt) (bd n : Nat) (D : Nat → Bool) (t : Heap) : Heap := dseg bd n D :: s.og :: (s.outs.map (·.2.2) ++ t)
theorem hp_up {s : PSt} {bd n : Nat} {D : Nat → Bool} {t : Heap} : ∀ x ∈ t, x ∈ s.hp bd n D t := fun x hx => by simp [PSt.hp, hx]
theorem T4_up {b1 b3 b4 bo bd bw n : Nat} {U : Int → Int → Bool → Bool} : ∀ x ∈ η, x ∈ T4 b1 b3 b4 bo bd bw n U η := fun x hx => by simp [T4, hx]

set_option maxHeartbeats 2000000 in
theorem blocks_prog {bw n : Nat} {U : Int → Int → Bool → Bool} {m : List ((Int × Int) × Bool)} (hn : n ≤ 48) (hw : Web η bw n U m) (hU : UOk U n) :
    Rt Try.prog 28 [ptr bw].toArray S w0 η (fun v η' => ∃ a cap segs, v = .slice a (orderS n (fwM (EN U) n) n []).length cap ∧ η' = segs ++ η ∧ OutL S w0 segs a (orderS n (fwM (EN U) n) n [])) := by
  have hF := open_wide
  refine Rt.of (fn := Try.f28) Try.func28 rfl rfl ?_
  refine T.seq ?_
  refine T.region ?_
  refine TL.box hF rfl rfl (fun b1 => ?_)
  refine TL.assign hF rfl rfl ?_
  refine TL.nil ?_
  refine TQ.then_n ?_
  refine T.scope ?_
  refine T.seq ?_
  refine T.region ?_
  refine TL.load hF rfl (by first | exact At.own' (i := 0) rfl rfl | exact At.own' (i := 1) rfl rfl | exact At.own' (i := 2) rfl rfl | exact At.own' (i := 3) rfl rfl | exact At.own' (i := 4) rfl rfl) rfl ?_
  refine TL.call hF (of_fn (n := n) hn (hw.up upc)) rfl rfl ?_
  rintro _ _ ⟨bo, rfl, rfl⟩
  refine TL.alloc hF rfl (fun b3 => ?_)
  first | refine TL.storeI hF 0 rfl rfl rfl rfl (by first | decide | simp) ?_ | refine TL.storeI hF 1 rfl rfl rfl rfl (by first | decide | simp) ?_ | refine TL.storeI hF 2 rfl rfl rfl rfl (by first | decide | simp) ?_ | refine TL.storeI hF 3 rfl rfl rfl rfl (by first | decide | simp) ?_
  refine TL.nil ?_
  refine TQ.then_n ?_
  refine T.seq ?_
  refine T.region ?_
  obtain ⟨bm, es, clock, hws, hwm, hwo⟩ := hw.ex
  refine TL.load hF rfl (own_mem (cs := (ptr bw).cells) (e := 59) (fz := (0, 0)) (upc _ (upc _ List.mem_cons_self)) rfl) rfl ?_
  refine TL.nilCheck hF rfl rfl ?_
  refine TL.fieldAddr hF rfl rfl ?_
  refine TL.load hF rfl (own_mem (upc _ (upc _ (upc _ hws))) rfl) rfl ?_
  refine TL.makeSlice hF (k := n) rfl rfl rfl (by omega) (by omega) rfl (fun bd => ?_)
  refine TL.alloc hF rfl (fun b4 => ?_)
  first | refine TL.storeI hF 0 rfl rfl rfl rfl (by first | decide | simp) ?_ | refine TL.storeI hF 1 rfl rfl rfl rfl (by first | decide | simp) ?_ | refine TL.storeI hF 2 rfl rfl rfl rfl (by first | decide | simp) ?_ | refine TL.storeI hF 3 rfl rfl rfl rfl (by first | decide | simp) ?_
  refine TL.nil ?_
  refine TQ.then_n ?_
  refine T.seq ?_
  refine T.region ?_
  refine TL.makeFunc hF rfl rfl rfl ?_
  refine TL.assign hF rfl rfl ?_
  refine TL.nil ?_
  refine TQ.then_n ?_
  refine T.seq ?_
  refine T.label ?_
  refine TQ.then_n ?_
  refine T.seq ?_
  refine T.seq ?_
  refine T.region ?_
  refine TL.assign hF rfl rfl ?_
  refine TL.nil ?_
  refine TQ.then_n ?_
  refine T.block ?_
  refine T.hnil ?_
  refine T.hperm (PSt.hp ⟨n, [], [], none, 0, []⟩ bd n (fun x => ([] : List Nat).contains x) (T4 b1 b3 b4 bo bd bw n U η)) (by
    have e : dseg bd n (fun x => ([] : List Nat).contains x) = [(bd, .cells (List.replicate n (Value.bool false)).toArray 4 (0, 0))] := by rw [rowC_false]; simp
    unfold PSt.hp T4
    rw [e]
    refine List.Perm.trans (List.Perm.swap _ _ _) (List.Perm.cons _ ?_)
    exact List.Perm.swap _ _ _) ?_
  refine T.loop (ι := Nat × PSt) (fun i => i.1 ≤ n ∧ i.2.Ok n (fwM (EN U) n) ∧ ∀ b, b < i.1 → readyS n (fwM (EN U) n) i.2.done b = false) (fun i => [(1, ptr b1), (3, ptr b3), (4, ptr b4), (5, .func (.func 56) #[] #[ptr b1, ptr b3, ptr b4]), (2, .slice i.2.oa i.2.outs.length i.2.oc), (6, .int .i64 (i.1 : Int))]) (fun i => i.2.hp bd n (fun x => i.2.done.contains x) (T4 b1 b3 b4 bo bd bw n U η)) (fun i => (n - i.2.done.length) * (n + 1) + (n - i.1)) (0, ⟨n, [], [], none, 0, []⟩) ⟨Nat.zero_le _, ⟨GoodD.nil _ _, by simp, by simp, by simp, by simp, OSl.nil 23 1⟩, by omega⟩ ⟨rfl, rfl, rfl, rfl, rfl, rfl, trivial⟩ rfl ?_
  rintro ⟨b, s⟩ ⟨hb, hs, hnr⟩
  simp only at hb hs hnr
  have hmem : ∀ x ∈ (T4 b1 b3 b4 bo bd bw n U η), x ∈ s.hp bd n (fun x => s.done.contains x) (T4 b1 b3 b4 bo bd bw n U η) := hp_up
  have hc : ReadyC b1 b3 b4 bo bd bw n U m (fun x => s.done.contains x) (s.hp bd n (fun x => s.done.contains x) (T4 b1 b3 b4 bo bd bw n U η)) := ⟨hmem _ (by simp [T4]), hmem _ (by simp [T4]), hmem _ (by simp [T4]), hmem _ (by simp [T4]), by simp [PSt.hp], hw.up (fun x hx => hmem x (T4_up x hx))⟩
  have hdl := hs.good.len
  refine T.seq ?_
  refine T.seq ?_
  refine T.region ?_
  refine TL.move hF rfl rfl ?_
  refine TL.load hF rfl (own_mem hc.1 rfl) rfl ?_
  refine TL.nilCheck hF rfl rfl ?_
  refine TL.fieldAddr hF rfl rfl ?_
  refine TL.load hF rfl (own_mem (hmem _ (T4_up _ hws)) rfl) rfl ?_
  refine TL.bin hF rfl rfl rfl rfl ?_
  refine TL.nil ?_
  refine TQ.then_n ?_
  first | refine T.cond_d rfl (fun ht23 => ?_) (fun ht23 => ?_) | refine T.cond _ rfl (fun ht23 => ?_) (fun ht23 => ?_)
  · refine T.skip ?_
    refine TQ.then_n ?_
    refine T.seq ?_
    refine T.block ?_
    refine T.seq ?_
    refine T.seq ?_
    refine T.region ?_
    refine TL.load hF rfl (own_mem hc.2.1 rfl) rfl ?_
    refine TL.move hF rfl rfl ?_
    refine TL.indexAddr hF rfl rfl ⟨_, rfl, rfl⟩ (by omega) (by omega) rfl ?_
    refine TL.load hF rfl (iseg_at (f := (fun i => ((ofS (EN U) n i : Nat) : Int))) (n := n) (b := bo) (j := b) hc.2.2.2.1 (by omega)) rfl ?_
    refine TL.move hF rfl rfl ?_
    refine TL.bin hF rfl rfl rfl rfl ?_
    refine TL.move hF rfl rfl ?_
    refine TL.gd (t := 32) rfl (fun g7_32 => ?_) (fun g7_32 => ?_)
    · refine TL.off hF rfl rfl rfl (decide_eq_true g7_32) rfl ?_
      refine TL.off hF rfl rfl rfl (decide_eq_true g7_32) rfl ?_
      refine TL.off hF rfl rfl rfl (decide_eq_true g7_32) rfl ?_
      refine TL.off hF rfl rfl rfl (decide_eq_true g7_32) rfl ?_
      refine TL.pickT hF rfl (decide_eq_true g7_32) rfl rfl ?_
      refine TL.move hF rfl rfl ?_
      refine TL.off hF rfl rfl rfl rfl rfl ?_
      refine TL.off hF rfl rfl rfl rfl rfl ?_
      refine TL.off hF rfl rfl rfl rfl rfl ?_
      refine TL.off hF rfl rfl rfl rfl rfl ?_
      refine TL.pickT hF rfl rfl rfl rfl ?_
      refine TL.nil ?_
      refine TQ.then_n ?_
      refine T.cond_t rfl rfl ?_
      refine T.exit ?_
      refine TQ.then_x ?_
      refine TQ.block_x ?_
      refine TQ.then_n ?_
      refine T.region ?_
      refine TL.move hF rfl rfl ?_
      refine TL.add hF rfl rfl (by omega) (by omega) rfl ?_
      refine TL.assign hF rfl rfl ?_
      refine TL.nil ?_
      have hbn : b < n := by have h : (b : Int) < n := ht23; omega
      have hns : readyS n (fwM (EN U) n) s.done b = false := by
        rw [Bool.eq_false_iff]; intro h
        obtain ⟨h1, h2, h3⟩ := ready_head hs.good hbn h
        have hle := ofS_le (E := EN U) (n := n) (r := b)
        have := hnr (ofS (EN U) n b) (by have h4 : ((ofS (EN U) n b : Nat) : Int) ≠ b := g7_32; omega)
        rw [h2] at this; cases this
      refine TQ.round (b + 1, s) ⟨by simp only; omega, hs, fun b' hb' => ?_⟩ (Nat.add_lt_add_left (by simp only; omega) _) ⟨rfl, rfl, rfl, rfl, rfl, rfl, trivial⟩ rfl
      by_cases hbb : b' = b
      · subst hbb; exact hns
      · exact hnr b' (by simp only at hb'; omega)
    · refine TL.on rfl rfl rfl (decide_eq_false g7_32) ?_
      refine TL.load hF rfl (own_mem hc.2.2.1 rfl) rfl ?_
      refine TL.on rfl rfl rfl (decide_eq_false g7_32) ?_
      refine TL.move hF rfl rfl ?_
      refine TL.on rfl rfl rfl (decide_eq_false g7_32) ?_
      refine TL.indexAddr hF rfl rfl ⟨_, rfl, rfl⟩ (by omega) (by omega) rfl ?_
      refine TL.on rfl rfl rfl (decide_eq_false g7_32) ?_
      refine TL.load hF rfl (dseg_at (D := (fun x => s.done.contains x)) (n := n) (b := bd) (j := b) hc.2.2.2.2.1 (by omega)) rfl ?_
      refine TL.pickF hF rfl (decide_eq_false g7_32) rfl rfl ?_
      refine TL.move hF rfl rfl ?_
      refine TL.gb (t := 38) rfl (fun g7_38 => ?_) (fun g7_38 => ?_)
      · refine TL.off hF rfl rfl rfl g7_38 rfl ?_
        refine TL.off hF rfl rfl rfl g7_38 rfl ?_
        refine TL.off hF rfl rfl rfl g7_38 rfl ?_
        refine TL.off hF rfl rfl rfl g7_38 rfl ?_
        refine TL.pickT hF rfl g7_38 rfl rfl ?_
        refine TL.nil ?_
        refine TQ.then_n ?_
        refine T.cond_t rfl rfl ?_
        refine T.exit ?_
        refine TQ.then_x ?_
        refine TQ.block_x ?_
        refine TQ.then_n ?_
        refine T.region ?_
        refine TL.move hF rfl rfl ?_
        refine TL.add hF rfl rfl (by omega) (by omega) rfl ?_
        refine TL.assign hF rfl rfl ?_
        refine TL.nil ?_
        have hbn : b < n := by have h : (b : Int) < n := ht23; omega
        have hns : readyS n (fwM (EN U) n) s.done b = false := by
          rw [Bool.eq_false_iff]; intro h
          exact (readyS_iff.1 h).1 (by simpa using g7_38)
        refine TQ.round (b + 1, s) ⟨by simp only; omega, hs, fun b' hb' => ?_⟩ (Nat.add_lt_add_left (by simp only; omega) _) ⟨rfl, rfl, rfl, rfl, rfl, rfl, trivial⟩ rfl
        by_cases hbb : b' = b
        · subst hbb; exact hns
        · exact hnr b' (by simp only at hb'; omega)
      · refine TL.on rfl rfl rfl g7_38 ?_
        refine TL.move hF rfl rfl ?_
        refine TL.on rfl rfl rfl g7_38 ?_
        refine TL.move hF rfl rfl ?_
        refine TL.on rfl rfl rfl g7_38 ?_
        refine TL.call hF (ready_fn (b := b) hn hU hc) rfl rfl ?_
        rintro _ _ ⟨rr, rfl, rfl, hrr⟩
        refine TL.on rfl rfl rfl g7_38 ?_
        refine TL.not hF rfl rfl ?_
        refine TL.pickF hF rfl g7_38 rfl rfl ?_
        refine TL.nil ?_
        refine TQ.then_n ?_
        refine T.cond _ rfl (fun ht43 => ?_) (fun ht43 => ?_)
        · refine T.exit ?_
          refine TQ.then_x ?_
          refine TQ.block_x ?_
          refine TQ.then_n ?_
          refine T.region ?_
          refine TL.move hF rfl rfl ?_
          refine TL.add hF rfl rfl (by omega) (by omega) rfl ?_
          refine TL.assign hF rfl rfl ?_
          refine TL.nil ?_
          have hbn : b < n := by have h : (b : Int) < n := ht23; omega
          have hns : readyS n (fwM (EN U) n) s.done b = false := by
            rw [Bool.eq_false_iff]; intro h
            have h2 := hrr.2 (ready_RP hbn (by have h4 : ¬ ((ofS (EN U) n b : Nat) : Int) ≠ b := g7_32; omega) h)
            rw [h2] at ht43; cases ht43
          refine TQ.round (b + 1, s) ⟨by simp only; omega, hs, fun b' hb' => ?_⟩ (Nat.add_lt_add_left (by simp only; omega) _) ⟨rfl, rfl, rfl, rfl, rfl, rfl, trivial⟩ rfl
          by_cases hbb : b' = b
          · subst hbb; exact hns
          · exact hnr b' (by simp only at hb'; omega)
        · refine T.skip ?_
          refine TQ.then_n ?_
          refine T.seq ?_
          refine T.region ?_
          refine TL.assign hF rfl rfl ?_
          refine TL.nil ?_
          refine TQ.then_n ?_
          refine T.seq ?_
          refine T.seq ?_
          refine T.region ?_
          refine TL.load hF rfl (own_mem hc.2.1 rfl) rfl ?_
          refine TL.len hF rfl rfl ?_
          refine TL.move hF rfl rfl ?_
          refine TL.nil ?_
          refine TQ.then_n ?_
          refine T.block ?_
          have hbn : b < n := by have h : (b : Int) < n := ht23; omega
          have hob : ofS (EN U) n b = b := by omega
          have hbd : b ∉ s.done := by simpa using g7_38
          have hrd : readyS n (fwM (EN U) n) s.done b = true := RP_ready hs.good hbn hob hbd (hrr.1 (by simpa using ht43))
          refine T.hnil ?_
          refine T.loop (ι := Nat × List Nat × Option Addr × Nat × Seg) (fun i => i.1 ≤ n ∧ i.2.1 = (List.range i.1).filter (fun r => decide (ofS (EN U) n r = b)) ∧ OSl 3 1 (.slice i.2.2.1 i.2.1.length i.2.2.2.1) i.2.1.length (nats i.2.1) i.2.2.2.2) (fun i => [(1, ptr b1), (3, ptr b3), (4, ptr b4), (5, .func (.func 56) #[] #[ptr b1, ptr b3, ptr b4]), (2, .slice s.oa s.outs.length s.oc), (6, .int .i64 (b : Int)), (7, .slice i.2.2.1 i.2.1.length i.2.2.2.1), (44, .slice (some ⟨bo, 0, none⟩) n n), (45, .int .i64 (n : Int)), (46, .int .i64 (i.1 : Int))]) (fun i => i.2.2.2.2 :: s.hp bd n (fun x => s.done.contains x || (decide (x < i.1) && decide (ofS (EN U) n x = b))) (T4 b1 b3 b4 bo bd bw n U η)) (fun i => n - i.1) (0, [], none, 0, []) ⟨Nat.zero_le _, rfl, OSl.nil 3 1⟩ ⟨rfl, rfl, rfl, rfl, rfl, rfl, rfl, rfl, rfl, rfl, trivial⟩ (by simp [PSt.hp]) ?_
          rintro ⟨k, l, la, lc, lg⟩ ⟨hk, hl, hlo⟩
          simp only at hk hl hlo
          have hlen : l.length ≤ k := by rw [hl]; simpa using List.length_filter_le (p := fun r => decide (ofS (EN U) n r = b)) (l := List.range k)
          have hm2 : ∀ x ∈ (T4 b1 b3 b4 bo bd bw n U η), x ∈ lg :: s.hp bd n (fun x => s.done.contains x || (decide (x < k) && decide (ofS (EN U) n x = b))) (T4 b1 b3 b4 bo bd bw n U η) := fun x hx => upc _ (hp_up x hx)
          refine T.seq ?_
          refine T.region ?_
          refine TL.bin hF rfl rfl rfl rfl ?_
          refine TL.nil ?_
          refine TQ.then_n ?_
          refine T.seq ?_
          first | refine T.cond_d rfl (fun ht47 => ?_) (fun ht47 => ?_) | refine T.cond _ rfl (fun ht47 => ?_) (fun ht47 => ?_)
          · refine T.skip ?_
            refine TQ.then_n ?_
            refine T.seq ?_
            refine T.block ?_
            refine T.seq ?_
            refine T.region ?_
            refine TL.move hF rfl rfl ?_
            refine TL.indexAddr hF rfl rfl ⟨_, rfl, rfl⟩ (by omega) (by omega) rfl ?_
            refine TL.load hF rfl (iseg_at (f := (fun i => ((ofS (EN U) n i : Nat) : Int))) (n := n) (b := bo) (j := k) (hm2 _ (by simp [T4])) (by omega)) rfl ?_
            refine TL.assign hF rfl rfl ?_
            refine TL.assign hF rfl rfl ?_
            refine TL.nil ?_
            refine TQ.then_n ?_
            refine T.seq ?_
            refine T.region ?_
            refine TL.move hF rfl rfl ?_
            refine TL.move hF rfl rfl ?_
            refine TL.bin hF rfl rfl rfl rfl ?_
            refine TL.nil ?_
            refine TQ.then_n ?_
            first | refine T.cond_d rfl (fun ht53 => ?_) (fun ht53 => ?_) | refine T.cond _ rfl (fun ht53 => ?_) (fun ht53 => ?_)
            · refine T.seq ?_
              refine T.region ?_
              refine TL.move hF rfl rfl ?_
              refine TL.move hF rfl rfl ?_
              refine TL.buildSlice hF rfl (cs := #[.int .i64 (k : Int)]) (e := 3) (fun w => by kernel_rfl) rfl (fun b56 => ?_)
              refine TL.append hF 1 rfl rfl rfl hlo (row_own (cs := [.int .i64 (k : Int)]) (e := 3) (by simp)).src rfl rfl (by simp [Value.oneCell']) (by omega) (by omega) rfl (fun a' cap' seg' ho' => ?_)
              refine TL.assign hF rfl rfl ?_
              refine TL.nil ?_
              refine TQ.then_n ?_
              refine T.region ?_
              refine TL.load hF rfl (own_mem (cs := #[.slice (some ⟨bd, 0, none⟩) n n]) (e := 42) (fz := (0, 0)) (upc _ (upc _ (hp_up _ (by simp [T4])))) rfl) rfl ?_
              refine TL.move hF rfl rfl ?_
              refine TL.indexAddr hF rfl rfl ⟨_, rfl, rfl⟩ (by omega) (by omega) rfl ?_
              refine TL.storeI hF 2 rfl rfl rfl rfl (by simp [rowC_len]; omega) ?_
              refine TL.nil ?_
              refine TQ.block_n ?_
              refine TQ.then_n ?_
              refine T.region ?_
              refine TL.add hF rfl rfl (by omega) (by omega) rfl ?_
              refine TL.move hF rfl rfl ?_
              refine TL.nil ?_
              have e1 : (l ++ [k]).length = l.length + 1 := by simp
              refine TQ.pop ?_
              refine TQ.round (k + 1, l ++ [k], a', cap', seg') ⟨by simp only; omega, ?_, by simpa using ho'⟩ (by simp only; omega) ⟨rfl, rfl, rfl, rfl, rfl, rfl, congrArg (fun z => some (Value.slice a' z cap')) e1.symm, rfl, rfl, rfl, trivial⟩ ?_
              · have hok : ofS (EN U) n k = b := by omega
                rw [List.range_succ, List.filter_append, ← hl]; simp [hok]
              · refine congrArg (fun r : Array Value => (seg' :: [(bd, Obj.cells r 4 (0, 0))] :: s.og :: (s.outs.map (·.2.2) ++ T4 b1 b3 b4 bo bd bw n U η) : Heap)) (rowC_set (j := 0 + (k : Int).toNat * 1) (fun x hx => ?_))
                by_cases hxk : x = k
                · subst hxk; rw [if_pos (by omega)]; simp [show ofS (EN U) n x = b by omega]
                · rw [if_neg (by omega), show decide (x < k + 1) = decide (x < k) by rw [Bool.eq_iff_iff]; simp only [decide_eq_true_eq]; omega]
            · refine T.skip ?_
              refine TQ.block_n ?_
              refine TQ.then_n ?_
              refine T.region ?_
              refine TL.add hF rfl rfl (by omega) (by omega) rfl ?_
              refine TL.move hF rfl rfl ?_
              refine TL.nil ?_
              refine TQ.round (k + 1, l, la, lc, lg) ⟨by simp only; omega, ?_, hlo⟩ (by simp only; omega) ⟨rfl, rfl, rfl, rfl, rfl, rfl, rfl, rfl, rfl, rfl, trivial⟩ ?_
              · have hok : ¬ ofS (EN U) n k = b := by omega
                rw [List.range_succ, List.filter_append, ← hl]; simp [hok]
              · refine congrArg (fun r : List Value => (lg :: [(bd, Obj.cells r.toArray 4 (0, 0))] :: s.og :: (s.outs.map (·.2.2) ++ T4 b1 b3 b4 bo bd bw n U η) : Heap)) (rowC_congr (fun x hx => ?_))
                by_cases hxk : x = k
                · subst hxk; simp [show ¬ ofS (EN U) n x = b by omega]
                · rw [show decide (x < k + 1) = decide (x < k) by rw [Bool.eq_iff_iff]; simp only [decide_eq_true_eq]; omega]
          · refine T.exit ?_
            refine TQ.then_x ?_
            refine TQ.then_x ?_
            refine TQ.block_x ?_
            refine TQ.then_n ?_
            refine T.seq ?_
            refine T.region ?_
            refine TL.move hF rfl rfl ?_
            refine TL.move hF rfl rfl ?_
            refine TL.buildSlice hF rfl (cs := #[.slice la l.length lc]) (e := 23) (fun w => by kernel_rfl) rfl (fun b64 => ?_)
            refine TL.append hF 3 rfl rfl rfl hs.o (row_own (cs := [.slice la l.length lc]) (e := 23) (by simp)).src rfl rfl (by simp [Value.oneCell']) (by have := hs.len; omega) (by have := hs.len; omega) rfl (fun oa' oc' og' ho' => ?_)
            refine TL.assign hF rfl rfl ?_
            refine TL.nil ?_
            refine TQ.then_n ?_
            refine T.region ?_
            refine TL.assign hF rfl rfl ?_
            refine TL.nil ?_
            refine TQ.block_n ?_
            refine TQ.then_n ?_
            refine T.region ?_
            refine TL.move hF rfl rfl ?_
            refine TL.add hF rfl rfl (by omega) (by omega) rfl ?_
            refine TL.assign hF rfl rfl ?_
            refine TL.nil ?_
            have hkn : n = k := by omega
            subst hkn
            have hlb : l = blockS n (fwM (EN U) n) b := hl.trans (head_block hbn hob)
            have hpk : pickS n (fwM (EN U) n) s.done = some b := pickS_is hbn hrd hnr
            have hdlt : s.done.length < n := by
              rcases Nat.lt_or_ge s.done.length n with h | h
              · exact h
              · exact absurd (all_done hs.good h b hbn) hbd
            obtain ⟨f', hf'⟩ : ∃ f', s.f = f' + 1 := ⟨s.f - 1, by have := hs.fuel; omega⟩
            have hbpos : 0 < l.length := by rw [hlb]; exact List.length_pos_of_mem (self_block hbn)
            have e1 : (s.outs ++ [(Value.slice la l.length lc, l, lg)]).length = s.outs.length + 1 := by simp
            have e2 : (s.done ++ l).length = s.done.length + l.length := by simp
            have hg2 : GoodD n (fwM (EN U) n) (s.done ++ l) := by rw [hlb]; exact hs.good.step (fw_TransM _ n) hbn hrd
            have hg2l := hg2.len
            refine TQ.pop ?_
            refine TQ.hperm (PSt.hp ⟨f', s.done ++ l, s.outs ++ [(Value.slice la l.length lc, l, lg)], oa', oc', og'⟩ bd n (fun x => (s.done ++ l).contains x) (T4 b1 b3 b4 bo bd bw n U η)) ?_ ?_
            · have e : dseg bd n (fun x => (s.done ++ l).contains x) = dseg bd n (fun x => s.done.contains x || (decide (x < n) && decide (ofS (EN U) n x = b))) := by
                unfold dseg
                rw [rowC_congr (fun x hx => ?_)]
                rw [Bool.eq_iff_iff]
                simp only [List.contains_iff_mem, List.mem_append, Bool.or_eq_true, Bool.and_eq_true, decide_eq_true_eq]
                rw [hl]; simp
              unfold PSt.hp
              rw [e]
              simp only [List.map_append, List.map_cons, List.map_nil, List.append_assoc, List.cons_append, List.nil_append]
              exact List.perm_middle (l₁ := _ :: _ :: s.outs.map (·.2.2))
            refine TQ.round (0, ⟨f', s.done ++ l, s.outs ++ [(Value.slice la l.length lc, l, lg)], oa', oc', og'⟩) ⟨Nat.zero_le _, ⟨hg2, ?_, ?_, ?_, ?_, by simpa using ho'⟩, by simp⟩ ?_ ⟨rfl, rfl, rfl, rfl, congrArg (fun z => some (Value.slice oa' z oc')) e1.symm, rfl, trivial⟩ rfl
            · intro t htm
              rcases List.mem_append.1 htm with h | h
              · exact hs.outs t h
              · have : t = (Value.slice la l.length lc, l, lg) := by simpa using h
                subst this; exact hlo
            · rw [hs.same, hf', orderS_step hpk, ← hlb]; simp
            · have := hs.fuel; simp only [e2]; omega
            · have := hs.len; simp only [e1, e2]; omega
            · simp only [e2]
              have h5 := Nat.mul_le_mul_right (n + 1) (show n - (s.done.length + l.length) + 1 ≤ n - s.done.length by omega)
              rw [Nat.add_mul, Nat.one_mul] at h5
              omega
  · refine T.exit ?_
    refine TQ.then_x ?_
    refine TQ.then_x ?_
    refine TQ.block_x ?_
    refine TQ.then_n ?_
    refine T.seq ?_
    refine T.region ?_
    refine TL.move hF rfl rfl ?_
    refine TL.assign hF rfl rfl ?_
    refine TL.nil ?_
    refine TQ.then_n ?_
    refine T.ret ?_
    refine TQ.scope_r ?_
    refine TQ.hsub (s.og :: (s.outs.map (·.2.2) ++ η)) (List.Sublist.cons _ (List.Sublist.cons_cons _ (List.Sublist.append_left (List.Sublist.cons _ (List.Sublist.cons _ (List.Sublist.cons _ (List.sublist_cons_self _ _)))) _))) ?_
    refine TQ.hperm ((s.outs.map (·.2.2) ++ [s.og]) ++ η) ?_ ?_
    · rw [List.append_assoc]; exact List.perm_middle
    refine TQ.rets [2] _ rfl rfl rfl ?_
    have hbn : b = n := by have h : ¬ (b : Int) < n := ht23; omega
    have e : orderS n (fwM (EN U) n) n [] = s.outs.map (·.2.1) := by rw [hs.same, orderS_end (pickS_none.2 (fun a ha => hnr a (by omega)))]; simp
    rw [e]
    exact ⟨s.oa, s.oc, _, by simp [retVal], rfl, hs.lists⟩
end Go.Proofs.Ytdehpaikapbckaa
/- The program's exported functions: blocks. -/
namespace Go.Proofs.Ytdehpaikapbckaa
open Go.Sl
variable {S : Nat → Prop} {w0 : World} {η : Heap}
theorem stop24 : StopC Try.prog 24 25 := ⟨⟨Try.f24, _, _, _, _, _, _, _, _, _, Try.func24, rfl, rfl, rfl⟩⟩
theorem stop33 : StopC Try.prog 33 25 := ⟨⟨Try.f33, _, _, _, _, _, _, _, _, _, Try.func33, rfl, rfl, rfl⟩⟩
theorem stop43 : StopC Try.prog 43 25 := ⟨⟨Try.f43, _, _, _, _, _, _, _, _, _, Try.func43, rfl, rfl, rfl⟩⟩
theorem stop45 : StopC Try.prog 45 25 := ⟨⟨Try.f45, _, _, _, _, _, _, _, _, _, Try.func45, rfl, rfl, rfl⟩⟩
theorem OutL.up {η' : Heap} {a : Option Addr} {ls : List (List Nat)} (h : OutL S w0 η a ls) (hs : ∀ x ∈ η, x ∈ η') : OutL S w0 η' a ls := by
  obtain ⟨ps, h1, h2, h3⟩ := h
  exact ⟨ps, h1, h2.up hs, fun i a b => (h3 i a b).up hs⟩
abbrev UR (rs : List RuleD) (a b : Int) (dn : Bool) : Bool := uses a b dn rs
theorem usesA_in {rels : Int} {b : Int} : ∀ {xs : List AtomD}, atomsOk rels xs = true → usesA b false xs = true → inR b rels = true
  | [], _, h => by simp [usesA] at h
  | x :: xs, h1, h => by
    simp only [atomsOk, Bool.and_eq_true] at h1
    simp only [usesA, hit, Bool.or_eq_true, Bool.and_eq_true, decide_eq_true_eq] at h
    rcases h with ⟨h2, _⟩ | h
    · rw [← h2]; exact h1.1
    · exact usesA_in h1.2 h
theorem uses_in {rels a b : Int} : ∀ {rs : List RuleD}, errs rels rs = 0 → uses a b false rs = true → inR a rels = true ∧ inR b rels = true
  | [], _, h => by simp [uses] at h
  | r :: rs, he, h => by
    have hr := errs_ok he r List.mem_cons_self
    have he2 : errs rels rs = 0 := by unfold errs at he; rwa [if_pos hr] at he
    simp only [uses, Bool.or_eq_true, Bool.and_eq_true, decide_eq_true_eq] at h
    rcases h with ⟨h1, h2⟩ | h
    · have h3 : inR r.head rels = true ∧ atomsOk rels r.body = true := by
        unfold checkR at hr
        split at hr; · omega
        split at hr; · omega
        split at hr
        · rename_i h4 h5; exact ⟨by simpa using h4, h5⟩
        · omega
      rw [← h1]; exact ⟨h3.1, usesA_in h3.2 h2⟩
    · exact uses_in he2 h
theorem uok {n : Nat} {rs : List RuleD} (h : errs n rs = 0) : UOk (UR rs) n := ⟨fun a b h1 => uses_le h1, fun a b h1 => by
  have := uses_in h h1
  simpa [inR, Bool.and_eq_true] using this⟩

set_option maxHeartbeats 2000000 in
theorem Blocks_prog {p : Option Addr} {rs : List RuleD} {c : Nat} (rels : Int) (hr : Rules S w0 [] p rs) (hl : rs.length < 2 ^ 63) (hbl : ∀ r ∈ rs, r.body.length < 2 ^ 63) :
    Rt Try.prog 10 [.int .i64 rels, .slice p rs.length c].toArray S w0 η (fun v η' => ∃ a cap segs, v = .tuple #[.slice a (blocksS rels rs).1.length cap, .int .i64 (blocksS rels rs).2] ∧ η' = segs ++ η ∧ OutL S w0 segs a (blocksS rels rs).1) := by
  have hF := open_wide
  refine Rt.ofL (fn := Try.f10) Try.func10 rfl rfl ?_
  refine T.seq ?_
  refine T.region ?_
  refine TL.assign hF rfl rfl ?_
  refine TL.alloc hF rfl (fun b5 => ?_)
  refine TL.nil ?_
  refine TQ.then_n ?_
  refine T.seq ?_
  refine T.region ?_
  refine TL.makeFunc hF rfl rfl rfl ?_
  refine TL.defer hF rfl rfl ?_
  refine TL.nil ?_
  refine TQ.then_n ?_
  refine T.seq ?_
  refine T.region ?_
  refine TL.move hF rfl rfl ?_
  refine TL.move hF rfl rfl ?_
  refine TL.callE hF (opened_fn rels hr hl hbl) rfl rfl ?_ ?_
  · rintro _ _ ⟨hck, bw, bm, es, clock, m, rfl, rfl, hm, hw⟩
    obtain ⟨hk1, hk2, hk3, hk4⟩ := check_ok hck
    obtain ⟨n, rfl⟩ : ∃ n : Nat, rels = (n : Int) := ⟨rels.toNat, by omega⟩
    have hU := uok hk4
    have hweb : Web (wseg bw bm n :: [(bm, .map es clock)] :: [(b5, .cells #[.int .i64 0] 27 (0, 0))] :: η) bw n (UR rs) m := ⟨⟨bm, es, clock, by simp, by simp, hm⟩, hw⟩
    refine TL.assign hF rfl rfl ?_
    refine TL.nil ?_
    refine TQ.then_n ?_
    refine T.seq ?_
    refine T.region ?_
    refine TL.move hF rfl rfl ?_
    refine TL.callM hF (ordered_prog (n := n) (by omega) hweb hU) rfl rfl (fun ho v12 => ?_) (fun ho => ?_)
    · 
      refine TL.nil ?_
      refine TQ.then_n ?_
      refine T.seq ?_
      refine T.region ?_
      refine TL.move hF rfl rfl ?_
      refine TL.call hF (blocks_prog (n := n) (by omega) hweb hU) rfl rfl ?_
      rintro _ _ ⟨oa, ocap, osg, rfl, rfl, hO⟩
      refine TL.assign hF rfl rfl ?_
      refine TL.hsub (osg ++ [(b5, .cells #[.int .i64 0] 27 (0, 0))] :: η) (List.Sublist.append_left (List.Sublist.cons _ (List.sublist_cons_self _ _)) _) ?_
      refine TL.storeI hF osg.length rfl rfl (hp_at rfl) rfl (by simp) ?_
      rw [hp_set rfl]
      refine TL.nil ?_
      refine TQ.then_n ?_
      refine T.ret ?_
      have e : blocksS n rs = (orderS n (fwM (EU rs) n) n [], 0) := by unfold blocksS; rw [if_neg (by simpa using hck), if_pos (by rw [Int.toNat_natCast]; exact ho), Int.toNat_natCast]
      refine TQ.retL [4] _ stop24 (stopped_nil _) rfl rfl rfl (own_mem (cs := #[.int .i64 0]) (e := 27) (fz := (0, 0)) (by simp) rfl) ?_
      rw [e]
      exact ⟨oa, ocap, osg ++ [[(b5, .cells #[.int .i64 0] 27 (0, 0))]], rfl, by simp, hO.up upl⟩
    · skip
      refine TQ.then_p ?_
      refine TQ.hsub ([(b5, .cells #[.int .i64 0] 27 (0, 0))] :: η) (List.Sublist.cons _ (List.sublist_cons_self _ _)) ?_
      refine TQ.panL [4] [.slice none 0 0] stop24 (stopped_err 10) rfl rfl rfl (At.own' (i := 0) rfl rfl) ?_
      have e : blocksS n rs = ([], 10) := by unfold blocksS; rw [if_neg (by simpa using hck), if_neg (by rw [Int.toNat_natCast]; rw [show ordB n (ED rs) (fwM (EU rs) n) = false from ho]; simp)]
      rw [e]
      exact ⟨none, 0, [[(b5, .cells #[.int .i64 10] 27 (0, 0))]], rfl, rfl, Lists.none⟩
  · rintro _ _ ⟨hck, rfl, rfl⟩
    refine TQ.then_p ?_
    refine TQ.panL [4] [.slice none 0 0] stop24 (stopped_err _) rfl rfl rfl (At.own' (i := 0) rfl rfl) ?_
    have e : blocksS rels rs = ([], check rels rs) := by unfold blocksS; rw [if_pos hck]
    rw [e]
    exact ⟨none, 0, [[(b5, .cells #[.int .i64 (check rels rs)] 27 (0, 0))]], rfl, rfl, Lists.none⟩
end Go.Proofs.Ytdehpaikapbckaa
/- The document's levels are the least that fit: plain Lean. -/
namespace Go.Proofs.Ytdehpaikapbckaa
/-- Levels that fit. -/
structure Fits (E D : Nat → Nat → Bool) (n : Nat) (L : Nat → Int) : Prop where
  pos : ∀ a, a < n → 0 ≤ L a
  use : ∀ a b, a < n → b < n → E a b = true → L b ≤ L a
  den : ∀ a b, a < n → b < n → D a b = true → L b + 1 ≤ L a
theorem needS_ge {E D : Nat → Nat → Bool} {own : List Nat} {L : Nat → Int} {a b : Nat} {m : Int} : m ≤ needS E D own L a m b ∧ (b ∉ own → E a b = true → L b ≤ needS E D own L a m b) ∧ (D a b = true → L b + 1 ≤ needS E D own L a m b) := by
  unfold needS
  simp only
  refine ⟨?_, ?_, ?_⟩
  · split <;> split <;> omega
  · intro h1 h2
    have h3 : own.contains b = false ∧ E a b = true := ⟨by simpa using h1, h2⟩
    rw [if_pos h3]; split <;> omega
  · intro h; rw [if_pos h]; omega
theorem needS_up {E D : Nat → Nat → Bool} {own : List Nat} {L : Nat → Int} {a b : Nat} {m X : Int} (hm : m ≤ X) (h1 : b ∉ own → E a b = true → L b ≤ X) (h2 : D a b = true → L b + 1 ≤ X) : needS E D own L a m b ≤ X := by
  unfold needS
  simp only
  have h3 : (if own.contains b = false ∧ E a b = true then max m (L b) else m) ≤ X := by
    split
    · rename_i h; have := h1 (by simpa using h.1) h.2; omega
    · exact hm
  split
  · rename_i h; have := h2 h; omega
  · exact h3
theorem needA_ge {E D : Nat → Nat → Bool} {own : List Nat} {L : Nat → Int} {a : Nat} {m : Int} : ∀ k, m ≤ needA E D own L a m k ∧ ∀ b, b < k → (b ∉ own → E a b = true → L b ≤ needA E D own L a m k) ∧ (D a b = true → L b + 1 ≤ needA E D own L a m k) := by
  intro k
  induction k with
  | zero => exact ⟨by simp [needA], fun b hb => by omega⟩
  | succ k ih =>
    rw [needA_succ]
    have h := needS_ge (E := E) (D := D) (own := own) (L := L) (a := a) (b := k) (m := needA E D own L a m k)
    refine ⟨Int.le_trans ih.1 h.1, fun b hb => ?_⟩
    by_cases hbk : b = k
    · subst hbk; exact h.2
    · have := ih.2 b (by omega)
      exact ⟨fun h1 h2 => Int.le_trans (this.1 h1 h2) h.1, fun h1 => Int.le_trans (this.2 h1) h.1⟩
theorem needA_up {E D : Nat → Nat → Bool} {own : List Nat} {L : Nat → Int} {a : Nat} {m X : Int} (hm : m ≤ X) : ∀ k, (∀ b, b < k → (b ∉ own → E a b = true → L b ≤ X) ∧ (D a b = true → L b + 1 ≤ X)) → needA E D own L a m k ≤ X := by
  intro k
  induction k with
  | zero => intro _; exact hm
  | succ k ih => intro h; rw [needA_succ]; exact needS_up (ih fun b hb => h b (by omega)) (h k (by omega)).1 (h k (by omega)).2
theorem needB_ge {E D : Nat → Nat → Bool} {n : Nat} {own : List Nat} {L : Nat → Int} : ∀ (xs : List Nat) (m : Int), m ≤ xs.foldl (fun m a => needA E D own L a m n) m ∧ ∀ a ∈ xs, ∀ b, b < n → (b ∉ own → E a b = true → L b ≤ xs.foldl (fun m a => needA E D own L a m n) m) ∧ (D a b = true → L b + 1 ≤ xs.foldl (fun m a => needA E D own L a m n) m) := by
  intro xs
  induction xs with
  | nil => intro m; exact ⟨Int.le_refl _, by simp⟩
  | cons x xs ih =>
    intro m
    have h1 := needA_ge (E := E) (D := D) (own := own) (L := L) (a := x) (m := m) n
    have h2 := ih (needA E D own L x m n)
    refine ⟨Int.le_trans h1.1 h2.1, fun a ha b hb => ?_⟩
    rcases List.mem_cons.1 ha with rfl | ha
    · have := h1.2 b hb
      exact ⟨fun h3 h4 => Int.le_trans (this.1 h3 h4) h2.1, fun h3 => Int.le_trans (this.2 h3) h2.1⟩
    · exact h2.2 a ha b hb
theorem needB_up {E D : Nat → Nat → Bool} {n : Nat} {own : List Nat} {L : Nat → Int} {X : Int} : ∀ (xs : List Nat) (m : Int), m ≤ X → (∀ a ∈ xs, ∀ b, b < n → (b ∉ own → E a b = true → L b ≤ X) ∧ (D a b = true → L b + 1 ≤ X)) → xs.foldl (fun m a => needA E D own L a m n) m ≤ X := by
  intro xs
  induction xs with
  | nil => intro m h _; exact h
  | cons x xs ih => intro m h hx; exact ih _ (needA_up h n (hx x List.mem_cons_self)) (fun a ha => hx a (List.mem_cons_of_mem _ ha))
def stepL (E D : Nat → Nat → Bool) (n : Nat) (L : Nat → Int) (own : List Nat) : Nat → Int := setL own (needB E D n own L own) L
structure Part (E D : Nat → Nat → Bool) (n : Nat) (done : List Nat) (L : Nat → Int) : Prop where
  good : GoodD n (fwM E n) done
  pos : ∀ a, 0 ≤ L a
  use : ∀ a ∈ done, ∀ b, b < n → E a b = true → L b ≤ L a
  den : ∀ a ∈ done, ∀ b, b < n → D a b = true → L b + 1 ≤ L a
  low : ∀ L', Fits E D n L' → ∀ a ∈ done, L a ≤ L' a
theorem Fits.way {E D : Nat → Nat → Bool} {n : Nat} {L : Nat → Int} (h : Fits E D n L) {a b : Nat} (ha : a < n) (hb : b < n) (hm : fwM E n a b = true) : L b ≤ L a :=
  fw_least (fun x => L x ≤ L a) (fun x y hx hy hX he => Int.le_trans (h.use x y hx hy he) hX) (Nat.le_refl n) ha hb (Int.le_refl _) hm
theorem Part.step {E D : Nat → Nat → Bool} {n : Nat} (hDE : ∀ a b, D a b = true → E a b = true) (ho : ordB n D (fwM E n) = true) {done : List Nat} {L : Nat → Int} (h : Part E D n done L) {a0 : Nat} (ha0 : a0 < n) (hr : readyS n (fwM E n) done a0 = true) :
    Part E D n (done ++ blockS n (fwM E n) a0) (stepL E D n L (blockS n (fwM E n) a0)) := by
  have hg2 := h.good.step (fw_TransM E n) ha0 hr
  obtain ⟨hnd0, hrd⟩ := readyS_iff.1 hr
  have hv := needB_ge (E := E) (D := D) (n := n) (own := blockS n (fwM E n) a0) (L := L) (blockS n (fwM E n) a0) 0
  have hvd : needB E D n (blockS n (fwM E n) a0) L (blockS n (fwM E n) a0) = (blockS n (fwM E n) a0).foldl (fun m a => needA E D (blockS n (fwM E n) a0) L a m n) 0 := rfl
  rw [← hvd] at hv
  -- two of a block lead to one another
  have hsame : ∀ a b, a ∈ blockS n (fwM E n) a0 → b ∈ blockS n (fwM E n) a0 → a = b ∨ (fwM E n a b = true ∧ fwM E n b a = true) := by
    intro a b ha hb
    obtain ⟨han, ha⟩ := mem_blockS.1 ha
    obtain ⟨hbn, hb⟩ := mem_blockS.1 hb
    rcases ha with rfl | ⟨h1, h2⟩ <;> rcases hb with rfl | ⟨h3, h4⟩
    · exact .inl rfl
    · exact .inr ⟨h3, h4⟩
    · exact .inr ⟨h2, h1⟩
    · exact .inr ⟨fw_trans ha0 h2 h3, fw_trans ha0 h4 h1⟩
  -- a use out of the block goes to what is done
  have hout : ∀ a b, a ∈ blockS n (fwM E n) a0 → b < n → E a b = true → b ∉ blockS n (fwM E n) a0 → b ∈ done := by
    intro a b ha hb he hnb
    obtain ⟨han, ha⟩ := mem_blockS.1 ha
    have hm : fwM E n a0 b = true := by
      rcases ha with rfl | ⟨h1, _⟩
      · exact fw_E he
      · exact fw_trans han h1 (fw_E he)
    rcases hrd b hb hm with h1 | h1
    · exact absurd h1 hnb
    · exact h1
  -- a denial leaves the block
  have hden : ∀ a b, a ∈ blockS n (fwM E n) a0 → b < n → D a b = true → b ∉ blockS n (fwM E n) a0 := by
    intro a b ha hb hd hbb
    have h1 := ordB_iff.1 ho a b (mem_blockS.1 ha).1 hb hd
    rcases hsame a b ha hbb with h2 | h2
    · exact h1 (.inl h2)
    · exact h1 (.inr h2.2)
  have hin : ∀ x, x ∈ blockS n (fwM E n) a0 → stepL E D n L (blockS n (fwM E n) a0) x = needB E D n (blockS n (fwM E n) a0) L (blockS n (fwM E n) a0) := by
    intro x hx; unfold stepL setL; rw [if_pos (by simpa using hx)]
  have hno : ∀ x, x ∉ blockS n (fwM E n) a0 → stepL E D n L (blockS n (fwM E n) a0) x = L x := by
    intro x hx; unfold stepL setL; rw [if_neg (by simpa using hx)]
  have hdis : ∀ x ∈ done, x ∉ blockS n (fwM E n) a0 := by
    intro x hx hb
    have := hg2.nd
    rw [List.nodup_append] at this
    exact this.2.2 x hx x hb rfl
  refine ⟨hg2, ?_, ?_, ?_, ?_⟩
  · intro x
    by_cases hx : x ∈ blockS n (fwM E n) a0
    · rw [hin x hx]; exact hv.1
    · rw [hno x hx]; exact h.pos x
  · intro a ha b hb he
    rcases List.mem_append.1 ha with ha | ha
    · rw [hno a (hdis a ha)]
      have hbd := h.good.cl a ha b hb (fw_E he)
      rw [hno b (hdis b hbd)]; exact h.use a ha b hb he
    · rw [hin a ha]
      by_cases hbb : b ∈ blockS n (fwM E n) a0
      · rw [hin b hbb]; exact Int.le_refl _
      · rw [hno b hbb]; exact (hv.2 a ha b hb).1 hbb he
  · intro a ha b hb hd
    rcases List.mem_append.1 ha with ha | ha
    · rw [hno a (hdis a ha)]
      have hbd := h.good.cl a ha b hb (fw_E (hDE a b hd))
      rw [hno b (hdis b hbd)]; exact h.den a ha b hb hd
    · rw [hin a ha, hno b (hden a b ha hb hd)]; exact (hv.2 a ha b hb).2 hd
  · intro L' hL a ha
    rcases List.mem_append.1 ha with ha | ha
    · rw [hno a (hdis a ha)]; exact h.low L' hL a ha
    · rw [hin a ha]
      have han := (mem_blockS.1 ha).1
      refine needB_up _ 0 (hL.pos a han) fun x hx b hb => ⟨fun hbb he => ?_, fun hd => ?_⟩
      · have hxn := (mem_blockS.1 hx).1
        have h1 := h.low L' hL b (hout x b hx hb he hbb)
        have h2 := hL.use x b hxn hb he
        have h3 : L' x ≤ L' a := by
          rcases hsame a x ha hx with h4 | h4
          · rw [h4]; exact Int.le_refl _
          · exact hL.way han hxn h4.1
        omega
      · have hxn := (mem_blockS.1 hx).1
        have h1 := h.low L' hL b (hout x b hx hb (hDE x b hd) (hden x b hx hb hd))
        have h2 := hL.den x b hxn hb hd
        have h3 : L' x ≤ L' a := by
          rcases hsame a x ha hx with h4 | h4
          · rw [h4]; exact Int.le_refl _
          · exact hL.way han hxn h4.1
        omega
theorem Part.all {E D : Nat → Nat → Bool} {n : Nat} (hDE : ∀ a b, D a b = true → E a b = true) (ho : ordB n D (fwM E n) = true) : ∀ (f : Nat) (done : List Nat) (L : Nat → Int), Part E D n done L → n ≤ f + done.length →
    ∃ done', (∀ a, a < n → a ∈ done') ∧ Part E D n done' ((orderS n (fwM E n) f done).foldl (stepL E D n) L) := by
  intro f
  induction f with
  | zero => intro done L h hf; exact ⟨done, all_done h.good (by omega), h⟩
  | succ f ih =>
    intro done L h hf
    cases hp : pickS n (fwM E n) done with
    | none =>
      refine ⟨done, fun a ha => ?_, by simp [orderS, hp]; exact h⟩
      apply Classical.byContradiction
      intro hd
      obtain ⟨x, hx, hr⟩ := some_ready (fw_TransM E n) ha hd
      have := pickS_none.1 hp x hx
      rw [hr] at this; cases this
    | some a0 =>
      obtain ⟨ha0, hr⟩ := pickS_some hp
      have hpos := List.length_pos_of_mem (self_block (M := fwM E n) ha0)
      obtain ⟨done', h1, h2⟩ := ih _ _ (h.step hDE ho ha0 hr) (by simp; omega)
      refine ⟨done', h1, ?_⟩
      rw [orderS_step hp]; exact h2
/-- The document's levels fit, and are the least. -/
theorem levels_least {E D : Nat → Nat → Bool} {n : Nat} (hDE : ∀ a b, D a b = true → E a b = true) (ho : ordB n D (fwM E n) = true) :
    Fits E D n (levelsF E D n (orderS n (fwM E n) n [])) ∧ ∀ L', Fits E D n L' → ∀ a, a < n → levelsF E D n (orderS n (fwM E n) n []) a ≤ L' a := by
  obtain ⟨done', h1, h2⟩ := Part.all hDE ho n [] (fun _ => 0) ⟨GoodD.nil _ _, by simp, by simp, by simp, by simp⟩ (by simp)
  have e : (orderS n (fwM E n) n []).foldl (stepL E D n) (fun _ => 0) = levelsF E D n (orderS n (fwM E n) n []) := rfl
  rw [e] at h2
  exact ⟨⟨fun a _ => h2.pos a, fun a b ha hb he => h2.use a (h1 a ha) b hb he, fun a b ha hb hd => h2.den a (h1 a ha) b hb hd⟩, fun L' hL a ha => h2.low L' hL a (h1 a ha)⟩
/-- What is left to rise. -/
def sumU (T L : Nat → Int) : Nat → Nat
  | 0 => 0
  | k + 1 => sumU T L k + (T k - L k).toNat
theorem sumU_le {T L L' : Nat → Int} : ∀ {n : Nat}, (∀ a, a < n → L a ≤ L' a) → sumU T L' n ≤ sumU T L n
  | 0, _ => Nat.le_refl _
  | n + 1, h => by
    have h1 := sumU_le (T := T) (n := n) (fun a ha => h a (by omega))
    have h2 := h n (by omega)
    simp only [sumU]; omega
theorem sumU_lt {T L L' : Nat → Int} {j : Nat} : ∀ {n : Nat}, (∀ a, a < n → L a ≤ L' a) → j < n → L j < L' j → L' j ≤ T j → sumU T L' n < sumU T L n
  | 0, _, hj, _, _ => by omega
  | n + 1, h, hj, h1, h2 => by
    by_cases hjn : j = n
    · subst hjn
      have h3 := sumU_le (T := T) (n := j) (fun a ha => h a (by omega))
      simp only [sumU]; omega
    · have h3 := sumU_lt (T := T) (n := n) (fun a ha => h a (by omega)) (by omega) h1 h2
      have h4 := h n (by omega)
      simp only [sumU]; omega
end Go.Proofs.Ytdehpaikapbckaa
/- The program's levels. -/
namespace Go.Proofs.Ytdehpaikapbckaa
open Go.Sl
variable {S : Nat → Prop} {w0 : World} {η : Heap}
set_option maxHeartbeats 2000000 in
theorem Levels_prog {p : Option Addr} {rs : List RuleD} {c : Nat} (rels : Int) (hr : Rules S w0 [] p rs) (hl : rs.length < 2 ^ 63) (hbl : ∀ r ∈ rs, r.body.length < 2 ^ 63) :
    Rt Try.prog 14 [.int .i64 rels, .slice p rs.length c].toArray S w0 η (fun v η' => ∃ a cap segs, v = .tuple #[.slice a (levelsS rels rs).1.length cap, .int .i64 (levelsS rels rs).2] ∧ η' = segs ++ η ∧ Row S w0 segs a (ints (levelsS rels rs).1)) := by
  have hF := open_wide
  refine Rt.ofL (fn := Try.f14) Try.func14 rfl rfl ?_
  refine T.seq ?_
  refine T.region ?_
  refine TL.assign hF rfl rfl ?_
  refine TL.alloc hF rfl (fun b5 => ?_)
  refine TL.nil ?_
  refine TQ.then_n ?_
  refine T.seq ?_
  refine T.region ?_
  refine TL.makeFunc hF rfl rfl rfl ?_
  refine TL.defer hF rfl rfl ?_
  refine TL.nil ?_
  refine TQ.then_n ?_
  refine T.seq ?_
  refine T.region ?_
  refine TL.move hF rfl rfl ?_
  refine TL.move hF rfl rfl ?_
  refine TL.callE hF (opened_fn rels hr hl hbl) rfl rfl ?_ ?_
  · rintro _ _ ⟨hck, bw, bm, es, clock, m, rfl, rfl, hwo, hw⟩
    obtain ⟨hk1, hk2, hk3, hk4⟩ := check_ok hck
    obtain ⟨n, rfl⟩ : ∃ n : Nat, rels = (n : Int) := ⟨rels.toNat, by omega⟩
    have hU := uok hk4
    have hweb : Web (wseg bw bm n :: [(bm, .map es clock)] :: [(b5, .cells #[.int .i64 0] 27 (0, 0))] :: η) bw n (UR rs) m := ⟨⟨bm, es, clock, by simp, by simp, hwo⟩, hw⟩
    refine TL.assign hF rfl rfl ?_
    refine TL.nil ?_
    refine TQ.then_n ?_
    refine T.seq ?_
    refine T.region ?_
    refine TL.move hF rfl rfl ?_
    refine TL.callM hF (ordered_prog (n := n) (by omega) hweb hU) rfl rfl (fun ho v17 => ?_) (fun ho => ?_)
    · have ho' : ordB n (ED rs) (fwM (EU rs) n) = true := ho
      obtain ⟨hfit, hleast⟩ := levels_least (E := EU rs) (D := ED rs) (n := n) (fun a b h => hU.le a b h) ho'
      have hTn : ∀ b, 0 ≤ (levelsF (EU rs) (ED rs) n (orderS n (fwM (EU rs) n) n [])) b ∧ (levelsF (EU rs) (ED rs) n (orderS n (fwM (EU rs) n) n [])) b ≤ n := fun b => by
        have h1 := levelsF_le (E := EU rs) (D := ED rs) (n := n) (orderS n (fwM (EU rs) n) n []) b
        have h2 := orderS_len (n := n) (M := fwM (EU rs) n) n []
        omega
      refine TL.nil ?_
      refine TQ.then_n ?_
      refine T.seq ?_
      refine T.region ?_
      refine TL.move hF rfl rfl ?_
      refine TL.makeSlice hF (k := n) rfl rfl rfl (by omega) (by omega) rfl (fun b19 => ?_)
      refine TL.assign hF rfl rfl ?_
      refine TL.nil ?_
      refine TQ.then_n ?_
      refine T.seq ?_
      refine T.seq ?_
      refine T.region ?_
      refine TL.assign hF rfl rfl ?_
      refine TL.nil ?_
      refine TQ.then_n ?_
      refine T.block ?_
      refine T.loop (ι := (Nat → Int) × Bool) (fun i => (∀ a, a < n → 0 ≤ i.1 a) ∧ (∀ a, a < n → i.1 a ≤ (levelsF (EU rs) (ED rs) n (orderS n (fwM (EU rs) n) n [])) a) ∧ (i.2 = false → Fits (EU rs) (ED rs) n i.1)) (fun i => [(4, .slice none 0 0), (5, ptr b5), (6, ptr bw), (7, .slice (some ⟨b19, 0, none⟩) n n), (8, .bool i.2)]) (fun i => iseg b19 n i.1 :: wseg bw bm n :: [(bm, .map es clock)] :: [(b5, .cells #[.int .i64 0] 27 (0, 0))] :: η) (fun i => 2 * sumU (levelsF (EU rs) (ED rs) n (orderS n (fwM (EU rs) n) n [])) i.1 n + (if i.2 then 1 else 0)) ((fun _ => 0), true) ⟨fun _ _ => Int.le_refl _, fun a _ => (hTn a).1, fun h => by simp at h⟩ ⟨rfl, rfl, rfl, rfl, rfl, trivial⟩ (by rw [intC_zero]; rfl) ?_
      rintro ⟨L, more⟩ ⟨hL0, hLT0, hfin⟩
      simp only at hL0 hLT0 hfin
      refine T.seq ?_
      refine T.seq ?_
      refine T.region ?_
      refine TL.move hF rfl rfl ?_
      refine TL.nil ?_
      refine TQ.then_n ?_
      refine T.cond _ rfl (fun ht20 => ?_) (fun ht20 => ?_)
      · refine T.skip ?_
        refine TQ.then_n ?_
        refine T.block ?_
        refine T.seq ?_
        refine T.region ?_
        refine TL.assign hF rfl rfl ?_
        refine TL.nil ?_
        refine TQ.then_n ?_
        refine T.seq ?_
        refine T.region ?_
        refine TL.move hF rfl rfl ?_
        refine TL.nilCheck hF rfl rfl ?_
        refine TL.fieldAddr hF rfl rfl ?_
        refine TL.load hF rfl (by first | exact At.own' (i := 0) rfl rfl | exact At.own' (i := 1) rfl rfl | exact At.own' (i := 2) rfl rfl | exact At.own' (i := 3) rfl rfl | exact At.own' (i := 4) rfl rfl) rfl ?_
        refine TL.range hF rfl (es := es) (clock := clock) (by simp) rfl (fun b25 => ?_)
        refine TL.nil ?_
        refine TQ.then_n ?_
        refine T.block ?_
        refine T.loop (ι := Array Nat × List (Int × Int) × (Nat → Int) × Bool) (fun i => ItOk m es i.1 i.2.1 ∧ i.2.1.Nodup ∧ (∀ x ∈ i.2.1, x ∈ m.map (·.1)) ∧ (∀ a, a < n → L a ≤ i.2.2.1 a) ∧ (∀ a, a < n → i.2.2.1 a ≤ (levelsF (EU rs) (ED rs) n (orderS n (fwM (EU rs) n) n [])) a) ∧ (i.2.2.2 = false → i.2.2.1 = L ∧ ∀ p ∈ m, p.1 ∈ i.2.1 → L p.1.2.toNat + (if p.2 then 1 else 0) ≤ L p.1.1.toNat) ∧ (i.2.2.2 = true → sumU (levelsF (EU rs) (ED rs) n (orderS n (fwM (EU rs) n) n [])) i.2.2.1 n < sumU (levelsF (EU rs) (ED rs) n (orderS n (fwM (EU rs) n) n [])) L n)) (fun i => [(4, .slice none 0 0), (5, ptr b5), (6, ptr bw), (7, .slice (some ⟨b19, 0, none⟩) n n), (8, .bool i.2.2.2), (25, ptr b25)]) (fun i => [(b25, .mapIter (some bm) clock i.1 clock)] :: iseg b19 n i.2.2.1 :: wseg bw bm n :: [(bm, .map es clock)] :: [(b5, .cells #[.int .i64 0] 27 (0, 0))] :: η) (fun i => m.length - i.2.1.length) (#[], [], L, false) ⟨ItOk.start m es, by simp, by simp, fun _ _ => Int.le_refl _, hLT0, fun _ => ⟨rfl, by simp⟩, fun h => by simp at h⟩ ⟨rfl, rfl, rfl, rfl, rfl, rfl, trivial⟩ rfl ?_
        rintro ⟨seen, done, L1, chg⟩ ⟨hit, hnd, hsub, hLL, hLT, hcf, hct⟩
        simp only at hit hnd hsub hLL hLT hcf hct
        refine T.seq ?_
        refine T.region ?_
        refine TL.next hF 0 rfl rfl (by simp) hwo hit rfl (fun hover => ?_) (fun p26 seen26 hp26 hnd26 hit26 hent26 => ?_)
        · refine TL.extract hF rfl rfl rfl ?_
          refine TL.nil ?_
          refine TQ.then_n ?_
          refine T.seq ?_
          refine T.cond_f rfl rfl ?_
          refine T.exit ?_
          refine TQ.then_x ?_
          refine TQ.then_x ?_
          refine TQ.block_x ?_
          refine TQ.block_n ?_
          refine TQ.pop ?_
          subst ht20
          cases chg with
          | true =>
            have h1 := hct rfl
            exact TQ.round (L1, true) ⟨fun a ha => Int.le_trans (hL0 a ha) (hLL a ha), hLT, fun h => by simp at h⟩ (by simp only [if_true]; omega) ⟨rfl, rfl, rfl, rfl, rfl, trivial⟩ rfl
          | false =>
            obtain ⟨h1, h2⟩ := hcf rfl
            subst h1
            refine TQ.round (L1, false) ⟨hL0, hLT, fun _ => ⟨hL0, fun a b ha hb he => ?_, fun a b ha hb hd => ?_⟩⟩ (by simp) ⟨rfl, rfl, rfl, rfl, rfl, trivial⟩ rfl
            · have hin := hw.has (a := a) (b := b) he
              have h3 := h2 _ hin (hover _ hin)
              simp only [Int.toNat_natCast] at h3
              show L1 b ≤ L1 a
              split at h3 <;> omega
            · have hin := hw.has (a := a) (b := b) (hU.le a b hd)
              have h3 := h2 _ hin (hover _ hin)
              simp only [Int.toNat_natCast] at h3
              rw [if_pos hd] at h3; exact h3
        · refine TL.extract hF rfl rfl rfl ?_
          refine TL.nil ?_
          refine TQ.then_n ?_
          refine T.seq ?_
          refine T.cond_t rfl rfl ?_
          refine T.skip ?_
          refine TQ.then_n ?_
          refine T.block ?_
          refine T.seq ?_
          refine T.region ?_
          refine TL.entry hF rfl List.mem_cons_self (by simp) hwo hent26 (K := KU) (V := Value.bool) (p := p26) rfl ?_
          refine TL.extract hF rfl rfl rfl ?_
          refine TL.extract hF rfl rfl rfl ?_
          refine TL.alloc hF rfl (fun b9 => ?_)
          refine TL.storeAI hF [.int .i64 p26.1.1, .int .i64 p26.1.2] 0 rfl rfl rfl rfl (by simp [Value.oneCell']) (by simp [Value.cells]) ?_
          refine TL.assign hF rfl rfl ?_
          refine TL.nil ?_
          refine TQ.then_n ?_
          refine T.seq ?_
          refine T.region ?_
          obtain ⟨hu, hpd⟩ := hw.entry hwo.nd hp26
          obtain ⟨⟨ha0, han⟩, hb0, hbn⟩ := hU.rg _ _ hu
          have hb1 := hLT p26.1.2.toNat (by omega)
          have hb2 := hTn p26.1.2.toNat
          have hb3 := hL0 p26.1.2.toNat (by omega)
          have hb4 := hLL p26.1.2.toNat (by omega)
          refine TL.move hF rfl rfl ?_
          refine TL.fieldAddr hF rfl rfl ?_
          refine TL.load hF rfl (own_list (i := 0) (cs := [.int .i64 p26.1.1, .int .i64 p26.1.2]) rfl 1 _ rfl) rfl ?_
          refine TL.indexAddr hF rfl rfl ⟨_, rfl, rfl⟩ (by omega) (by omega) rfl ?_
          refine TL.load hF rfl (iseg_at (f := L1) (n := n) (b := b19) (j := p26.1.2.toNat) (by simp) (by omega)) rfl ?_
          refine TL.assign hF rfl rfl ?_
          refine TL.nil ?_
          refine TQ.then_n ?_
          refine T.seq ?_
          refine T.seq ?_
          refine T.region ?_
          refine TL.move hF rfl rfl ?_
          refine TL.nil ?_
          refine TQ.then_n ?_
          refine T.cond _ rfl (fun ht36 => ?_) (fun ht36 => ?_)
          · refine T.region ?_
            refine TL.move hF rfl rfl ?_
            refine TL.add hF rfl rfl (by omega) (by omega) rfl ?_
            refine TL.assign hF rfl rfl ?_
            refine TL.nil ?_
            refine TQ.then_n ?_
            refine T.seq ?_
            refine T.region ?_
            refine TL.move hF rfl rfl ?_
            refine TL.move hF rfl rfl ?_
            refine TL.fieldAddr hF rfl rfl ?_
            refine TL.load hF rfl (own_list (i := 0) (cs := [.int .i64 p26.1.1, .int .i64 p26.1.2]) rfl 0 _ rfl) rfl ?_
            refine TL.indexAddr hF rfl rfl ⟨_, rfl, rfl⟩ (by omega) (by omega) rfl ?_
            refine TL.load hF rfl (iseg_at (f := L1) (n := n) (b := b19) (j := p26.1.1.toNat) (by simp) (by omega)) rfl ?_
            refine TL.bin hF rfl rfl rfl rfl ?_
            refine TL.nil ?_
            refine TQ.then_n ?_
            first | refine T.cond_d rfl (fun ht45 => ?_) (fun ht45 => ?_) | refine T.cond _ rfl (fun ht45 => ?_) (fun ht45 => ?_)
            · refine T.region ?_
              refine TL.move hF rfl rfl ?_
              refine TL.fieldAddr hF rfl rfl ?_
              refine TL.load hF rfl (own_list (i := 0) (cs := [.int .i64 p26.1.1, .int .i64 p26.1.2]) rfl 0 _ rfl) rfl ?_
              refine TL.move hF rfl rfl ?_
              refine TL.indexAddr hF rfl rfl ⟨_, rfl, rfl⟩ (by omega) (by omega) rfl ?_
              refine TL.storeI hF 2 rfl rfl rfl rfl (by simp [intC_len]; omega) ?_
              refine TL.assign hF rfl rfl ?_
              refine TL.nil ?_
              refine TQ.block_n ?_
              have hlt := done_len hnd hsub hp26 hnd26
              have hsub2 : ∀ x ∈ p26.1 :: done, x ∈ m.map (·.1) := fun x hx => by
                rcases List.mem_cons.1 hx with rfl | hx
                · exact List.mem_map.2 ⟨_, hp26, rfl⟩
                · exact hsub x hx
              refine TQ.pop ?_
              have hv : (L1 p26.1.2.toNat + 1) ≤ (levelsF (EU rs) (ED rs) n (orderS n (fwM (EU rs) n) n [])) p26.1.1.toNat := by
                have hd : ED rs p26.1.1.toNat p26.1.2.toNat = true := by show uses (p26.1.1.toNat : Nat) (p26.1.2.toNat : Nat) true rs = true; rw [show ((p26.1.1.toNat : Nat) : Int) = p26.1.1 by omega, show ((p26.1.2.toNat : Nat) : Int) = p26.1.2 by omega]; exact hpd.symm.trans ht36
                have := hfit.den _ _ (by omega) (by omega) hd
                omega
              have hgt : L1 p26.1.1.toNat < (L1 p26.1.2.toNat + 1) := by have h := ht45; omega
              refine TQ.round (seen26, p26.1 :: done, (fun i => if i = p26.1.1.toNat then (L1 p26.1.2.toNat + 1) else L1 i), true) ⟨hit26, List.nodup_cons.2 ⟨hnd26, hnd⟩, hsub2, fun a ha => ?_, fun a ha => ?_, fun h => by simp at h, fun _ => ?_⟩ (by simp only [List.length_cons]; omega) ⟨rfl, rfl, rfl, rfl, rfl, rfl, trivial⟩ (congrArg (fun z : Heap => [(b25, Obj.mapIter (some bm) clock seen26 clock)] :: z) (iseg_set (j := p26.1.1.toNat) (by simp) (fun i hi => rfl)))
              · have h2 := hLL a ha; show L a ≤ (if a = p26.1.1.toNat then (L1 p26.1.2.toNat + 1) else L1 a); split
                · rename_i h3; subst h3; omega
                · exact h2
              · have h2 := hLT a ha; show (if a = p26.1.1.toNat then (L1 p26.1.2.toNat + 1) else L1 a) ≤ (levelsF (EU rs) (ED rs) n (orderS n (fwM (EU rs) n) n [])) a; split
                · rename_i h3; subst h3; exact hv
                · exact h2
              · have h3 : sumU (levelsF (EU rs) (ED rs) n (orderS n (fwM (EU rs) n) n [])) (fun i => if i = p26.1.1.toNat then (L1 p26.1.2.toNat + 1) else L1 i) n < sumU (levelsF (EU rs) (ED rs) n (orderS n (fwM (EU rs) n) n [])) L1 n := sumU_lt (j := p26.1.1.toNat) (fun a ha => by
                  show L1 a ≤ (if a = p26.1.1.toNat then (L1 p26.1.2.toNat + 1) else L1 a); split
                  · rename_i h3; subst h3; omega
                  · exact Int.le_refl _) (by omega) (by simp only [if_true]; exact hgt) (by simp only [if_true]; exact hv)
                have h4 := sumU_le (T := (levelsF (EU rs) (ED rs) n (orderS n (fwM (EU rs) n) n []))) (n := n) hLL
                exact Nat.lt_of_lt_of_le h3 h4
            · refine T.skip ?_
              refine TQ.block_n ?_
              have hlt := done_len hnd hsub hp26 hnd26
              have hsub2 : ∀ x ∈ p26.1 :: done, x ∈ m.map (·.1) := fun x hx => by
                rcases List.mem_cons.1 hx with rfl | hx
                · exact List.mem_map.2 ⟨_, hp26, rfl⟩
                · exact hsub x hx
              refine TQ.pop ?_
              refine TQ.round (seen26, p26.1 :: done, L1, chg) ⟨hit26, List.nodup_cons.2 ⟨hnd26, hnd⟩, hsub2, hLL, hLT, fun hc0 => ⟨(hcf hc0).1, fun p hp hpd2 => ?_⟩, hct⟩ (by simp only [List.length_cons]; omega) ⟨rfl, rfl, rfl, rfl, rfl, rfl, trivial⟩ rfl
              rcases List.mem_cons.1 hpd2 with he | hx
              · have h6 := mget_of_mem hwo.nd hp
                have h2 := mget_of_mem hwo.nd hp26
                rw [he, h2] at h6
                have h3 : p26.2 = p.2 := by simpa using h6
                rw [he, ← h3, ht36, ← (hcf hc0).1]
                have h := ht45; simp; omega
              · exact (hcf hc0).2 p hp hx
          · refine T.skip ?_
            refine TQ.then_n ?_
            refine T.seq ?_
            refine T.region ?_
            refine TL.move hF rfl rfl ?_
            refine TL.move hF rfl rfl ?_
            refine TL.fieldAddr hF rfl rfl ?_
            refine TL.load hF rfl (own_list (i := 0) (cs := [.int .i64 p26.1.1, .int .i64 p26.1.2]) rfl 0 _ rfl) rfl ?_
            refine TL.indexAddr hF rfl rfl ⟨_, rfl, rfl⟩ (by omega) (by omega) rfl ?_
            refine TL.load hF rfl (iseg_at (f := L1) (n := n) (b := b19) (j := p26.1.1.toNat) (by simp) (by omega)) rfl ?_
            refine TL.bin hF rfl rfl rfl rfl ?_
            refine TL.nil ?_
            refine TQ.then_n ?_
            first | refine T.cond_d rfl (fun ht45 => ?_) (fun ht45 => ?_) | refine T.cond _ rfl (fun ht45 => ?_) (fun ht45 => ?_)
            · refine T.region ?_
              refine TL.move hF rfl rfl ?_
              refine TL.fieldAddr hF rfl rfl ?_
              refine TL.load hF rfl (own_list (i := 0) (cs := [.int .i64 p26.1.1, .int .i64 p26.1.2]) rfl 0 _ rfl) rfl ?_
              refine TL.move hF rfl rfl ?_
              refine TL.indexAddr hF rfl rfl ⟨_, rfl, rfl⟩ (by omega) (by omega) rfl ?_
              refine TL.storeI hF 2 rfl rfl rfl rfl (by simp [intC_len]; omega) ?_
              refine TL.assign hF rfl rfl ?_
              refine TL.nil ?_
              refine TQ.block_n ?_
              have hlt := done_len hnd hsub hp26 hnd26
              have hsub2 : ∀ x ∈ p26.1 :: done, x ∈ m.map (·.1) := fun x hx => by
                rcases List.mem_cons.1 hx with rfl | hx
                · exact List.mem_map.2 ⟨_, hp26, rfl⟩
                · exact hsub x hx
              refine TQ.pop ?_
              have hv : (L1 p26.1.2.toNat) ≤ (levelsF (EU rs) (ED rs) n (orderS n (fwM (EU rs) n) n [])) p26.1.1.toNat := by
                have hd : EU rs p26.1.1.toNat p26.1.2.toNat = true := by show uses (p26.1.1.toNat : Nat) (p26.1.2.toNat : Nat) false rs = true; rw [show ((p26.1.1.toNat : Nat) : Int) = p26.1.1 by omega, show ((p26.1.2.toNat : Nat) : Int) = p26.1.2 by omega]; exact hu
                have := hfit.use _ _ (by omega) (by omega) hd
                omega
              have hgt : L1 p26.1.1.toNat < (L1 p26.1.2.toNat) := by have h := ht45; omega
              refine TQ.round (seen26, p26.1 :: done, (fun i => if i = p26.1.1.toNat then (L1 p26.1.2.toNat) else L1 i), true) ⟨hit26, List.nodup_cons.2 ⟨hnd26, hnd⟩, hsub2, fun a ha => ?_, fun a ha => ?_, fun h => by simp at h, fun _ => ?_⟩ (by simp only [List.length_cons]; omega) ⟨rfl, rfl, rfl, rfl, rfl, rfl, trivial⟩ (congrArg (fun z : Heap => [(b25, Obj.mapIter (some bm) clock seen26 clock)] :: z) (iseg_set (j := p26.1.1.toNat) (by simp) (fun i hi => rfl)))
              · have h2 := hLL a ha; show L a ≤ (if a = p26.1.1.toNat then (L1 p26.1.2.toNat) else L1 a); split
                · rename_i h3; subst h3; omega
                · exact h2
              · have h2 := hLT a ha; show (if a = p26.1.1.toNat then (L1 p26.1.2.toNat) else L1 a) ≤ (levelsF (EU rs) (ED rs) n (orderS n (fwM (EU rs) n) n [])) a; split
                · rename_i h3; subst h3; exact hv
                · exact h2
              · have h3 : sumU (levelsF (EU rs) (ED rs) n (orderS n (fwM (EU rs) n) n [])) (fun i => if i = p26.1.1.toNat then (L1 p26.1.2.toNat) else L1 i) n < sumU (levelsF (EU rs) (ED rs) n (orderS n (fwM (EU rs) n) n [])) L1 n := sumU_lt (j := p26.1.1.toNat) (fun a ha => by
                  show L1 a ≤ (if a = p26.1.1.toNat then (L1 p26.1.2.toNat) else L1 a); split
                  · rename_i h3; subst h3; omega
                  · exact Int.le_refl _) (by omega) (by simp only [if_true]; exact hgt) (by simp only [if_true]; exact hv)
                have h4 := sumU_le (T := (levelsF (EU rs) (ED rs) n (orderS n (fwM (EU rs) n) n []))) (n := n) hLL
                exact Nat.lt_of_lt_of_le h3 h4
            · refine T.skip ?_
              refine TQ.block_n ?_
              have hlt := done_len hnd hsub hp26 hnd26
              have hsub2 : ∀ x ∈ p26.1 :: done, x ∈ m.map (·.1) := fun x hx => by
                rcases List.mem_cons.1 hx with rfl | hx
                · exact List.mem_map.2 ⟨_, hp26, rfl⟩
                · exact hsub x hx
              refine TQ.pop ?_
              refine TQ.round (seen26, p26.1 :: done, L1, chg) ⟨hit26, List.nodup_cons.2 ⟨hnd26, hnd⟩, hsub2, hLL, hLT, fun hc0 => ⟨(hcf hc0).1, fun p hp hpd2 => ?_⟩, hct⟩ (by simp only [List.length_cons]; omega) ⟨rfl, rfl, rfl, rfl, rfl, rfl, trivial⟩ rfl
              rcases List.mem_cons.1 hpd2 with he | hx
              · have h6 := mget_of_mem hwo.nd hp
                have h2 := mget_of_mem hwo.nd hp26
                rw [he, h2] at h6
                have h3 : p26.2 = p.2 := by simpa using h6
                rw [he, ← h3, ht36, ← (hcf hc0).1]
                have h := ht45; simp; omega
              · exact (hcf hc0).2 p hp hx
      · refine T.exit ?_
        refine TQ.then_x ?_
        refine TQ.then_x ?_
        refine TQ.block_x ?_
        refine TQ.then_n ?_
        refine T.seq ?_
        refine T.region ?_
        refine TL.move hF rfl rfl ?_
        refine TL.assign hF rfl rfl ?_
        refine TL.storeI hF 3 rfl rfl rfl rfl (by simp) ?_
        refine TL.nil ?_
        refine TQ.then_n ?_
        refine T.ret ?_
        have hmf : more = false := by simpa using ht20
        have hff := hfin hmf
        have e : levelsS n rs = ((List.range n).map (levelsF (EU rs) (ED rs) n (orderS n (fwM (EU rs) n) n [])), 0) := by
          have e : blocksS n rs = (orderS n (fwM (EU rs) n) n [], 0) := by unfold blocksS; rw [if_neg (by simpa using hck), if_pos (by rw [Int.toNat_natCast]; exact ho'), Int.toNat_natCast]
          unfold levelsS; rw [e, Int.toNat_natCast]; simp
        have eL : iseg b19 n L = iseg b19 n (levelsF (EU rs) (ED rs) n (orderS n (fwM (EU rs) n) n [])) := by
          unfold iseg; rw [intC_congr (fun i hi => Int.le_antisymm (hLT0 i hi) (hleast L hff i hi))]
        rw [eL]
        refine TQ.hsub (iseg b19 n (levelsF (EU rs) (ED rs) n (orderS n (fwM (EU rs) n) n [])) :: [(b5, .cells #[.int .i64 0] 27 (0, 0))] :: η) (List.Sublist.cons_cons _ (List.Sublist.cons _ (List.sublist_cons_self _ _))) ?_
        refine TQ.retL [4] _ stop43 (stopped_nil _) rfl rfl rfl (own_mem (cs := #[.int .i64 0]) (e := 27) (fz := (0, 0)) (by simp) rfl) ?_
        rw [e]
        refine ⟨some ⟨b19, 0, none⟩, n, [iseg b19 n (levelsF (EU rs) (ED rs) n (orderS n (fwM (EU rs) n) n [])), [(b5, .cells #[.int .i64 0] 27 (0, 0))]], by simp [retVal], rfl, ?_⟩
        have := row_own (S := S) (w0 := w0) (η := [iseg b19 n (levelsF (EU rs) (ED rs) n (orderS n (fwM (EU rs) n) n [])), [(b5, .cells #[.int .i64 0] 27 (0, 0))]]) (b := b19) (cs := intC n (levelsF (EU rs) (ED rs) n (orderS n (fwM (EU rs) n) n []))) (e := 3) (by simp)
        simpa [ints, intC, Function.comp_def] using this
    · skip
      refine TQ.then_p ?_
      refine TQ.hsub ([(b5, .cells #[.int .i64 0] 27 (0, 0))] :: η) (List.Sublist.cons _ (List.sublist_cons_self _ _)) ?_
      refine TQ.panL [4] [.slice none 0 0] stop43 (stopped_err 10) rfl rfl rfl (At.own' (i := 0) rfl rfl) ?_
      have e : levelsS n rs = ([], 10) := by
        have e : blocksS n rs = ([], 10) := by unfold blocksS; rw [if_neg (by simpa using hck), if_neg (by rw [Int.toNat_natCast]; rw [show ordB n (ED rs) (fwM (EU rs) n) = false from ho]; simp)]
        unfold levelsS; rw [e]; simp
      rw [e]
      exact ⟨none, 0, [[(b5, .cells #[.int .i64 10] 27 (0, 0))]], rfl, rfl, ⟨fun h => by simp at h, fun i v h => by simp at h⟩⟩
  · rintro _ _ ⟨hck, rfl, rfl⟩
    refine TQ.then_p ?_
    refine TQ.panL [4] [.slice none 0 0] stop43 (stopped_err _) rfl rfl rfl (At.own' (i := 0) rfl rfl) ?_
    have e : levelsS rels rs = ([], check rels rs) := by
      have e : blocksS rels rs = ([], check rels rs) := by unfold blocksS; rw [if_pos hck]
      unfold levelsS; rw [e]; simp [hck]
    rw [e]
    exact ⟨none, 0, [[(b5, .cells #[.int .i64 (check rels rs)] 27 (0, 0))]], rfl, rfl, ⟨fun h => by simp at h, fun i v h => by simp at h⟩⟩
end Go.Proofs.Ytdehpaikapbckaa
/- What changes reach: the library's searches, and lists of what is yielded. -/
namespace Go.Proofs.Ytdehpaikapbckaa
open Go.Sl
variable {S : Nat → Prop} {w0 : World} {η : Heap}
theorem whereA_ge {n : Int} : ∀ {xs : List Int} {i : Nat}, (0 ≤ whereA n xs i) ↔ n ∈ xs
  | [], i => by simp [whereA]
  | x :: xs, i => by
    unfold whereA
    by_cases h : x = n
    · subst h; simp
    · rw [if_neg h, whereA_ge (xs := xs)]; simp [Ne.symm h]
def whereP (p : Int → Bool) : List Int → Nat → Int
  | [], _ => -1
  | x :: xs, i => if p x = true then i else whereP p xs (i + 1)
theorem whereP_ge {p : Int → Bool} : ∀ {xs : List Int} {i : Nat}, (0 ≤ whereP p xs i) ↔ xs.any p = true
  | [], i => by simp [whereP]
  | x :: xs, i => by
    unfold whereP
    by_cases h : p x = true
    · rw [if_pos h]; simp [h]
    · rw [if_neg h, whereP_ge (xs := xs)]; simp [h]

set_option maxHeartbeats 2000000 in
theorem Index_fn {a : Option Addr} {xs : List Int} {c : Nat} (n : Int) (hx : Row S w0 η a (ints xs)) (hl : xs.length < 2 ^ 63) :
    Rt Try.prog 65 [.slice a xs.length c, .int .i64 n].toArray S w0 η (fun v η' => v = .int .i64 (whereA n xs 0) ∧ η' = η) := by
  have hF := open_wide
  refine Rt.of (fn := Try.f65) Try.func65 rfl rfl ?_
  refine T.seq ?_
  refine T.region ?_
  refine TL.assign hF rfl rfl ?_
  refine TL.nil ?_
  refine TQ.then_n ?_
  refine T.seq ?_
  refine T.seq ?_
  refine T.region ?_
  refine TL.move hF rfl rfl ?_
  refine TL.len hF rfl rfl ?_
  refine TL.move hF rfl rfl ?_
  refine TL.nil ?_
  refine TQ.then_n ?_
  refine T.block ?_
  refine T.loop (ι := Nat) (fun k => k ≤ xs.length ∧ whereA n xs 0 = whereA n (xs.drop k) k) (fun k => [(0, .slice a xs.length c), (1, .int .i64 n), (7, .int .i64 (xs.length : Int)), (8, .int .i64 (k : Int))]) (fun _ => η) (fun k => xs.length - k) 0 ⟨Nat.zero_le _, by simp⟩ ⟨rfl, rfl, rfl, rfl, trivial⟩ rfl ?_
  rintro k ⟨hk, hno⟩
  refine T.seq ?_
  refine T.region ?_
  refine TL.bin hF rfl rfl rfl rfl ?_
  refine TL.nil ?_
  refine TQ.then_n ?_
  refine T.seq ?_
  first | refine T.cond_d rfl (fun ht9 => ?_) (fun ht9 => ?_) | refine T.cond _ rfl (fun ht9 => ?_) (fun ht9 => ?_)
  · refine T.skip ?_
    refine TQ.then_n ?_
    refine T.seq ?_
    refine T.block ?_
    refine T.seq ?_
    refine T.region ?_
    refine TL.move hF rfl rfl ?_
    refine TL.assign hF rfl rfl ?_
    refine TL.nil ?_
    refine TQ.then_n ?_
    refine T.seq ?_
    refine T.region ?_
    refine TL.move hF rfl rfl ?_
    refine TL.move hF rfl rfl ?_
    refine TL.move hF rfl rfl ?_
    refine TL.indexAddr hF rfl rfl (hx.adi (i := k) (by simp; omega)) (by omega) (by omega) rfl ?_
    refine TL.load hF rfl (hx.int (i := k) (by omega)) rfl ?_
    refine TL.bin hF rfl rfl rfl rfl ?_
    refine TL.nil ?_
    refine TQ.then_n ?_
    first | refine T.cond_d rfl (fun ht16 => ?_) (fun ht16 => ?_) | refine T.cond _ rfl (fun ht16 => ?_) (fun ht16 => ?_)
    · refine T.seq ?_
      refine T.region ?_
      refine TL.move hF rfl rfl ?_
      refine TL.assign hF rfl rfl ?_
      refine TL.nil ?_
      refine TQ.then_n ?_
      refine T.ret ?_
      refine TQ.block_r ?_
      refine TQ.then_r ?_
      refine TQ.then_r ?_
      refine TQ.block_r ?_
      refine TQ.then_r ?_
      refine TQ.rets [4] _ rfl rfl rfl ?_
      exact ⟨by rw [hno, drop_step (by omega), whereA, if_pos ht16.symm]; rfl, rfl⟩
    · refine T.skip ?_
      refine TQ.block_n ?_
      refine TQ.then_n ?_
      refine T.region ?_
      refine TL.add hF rfl rfl (by omega) (by omega) rfl ?_
      refine TL.move hF rfl rfl ?_
      refine TL.nil ?_
      refine TQ.round (k + 1) ⟨by omega, by rw [hno, drop_step (by omega), whereA, if_neg (fun h => ht16 h.symm)]⟩ (by omega) ⟨rfl, rfl, rfl, rfl, trivial⟩ rfl
  · refine T.exit ?_
    refine TQ.then_x ?_
    refine TQ.then_x ?_
    refine TQ.block_x ?_
    refine TQ.then_n ?_
    refine T.seq ?_
    refine T.region ?_
    refine TL.assign hF rfl rfl ?_
    refine TL.nil ?_
    refine TQ.then_n ?_
    refine T.ret ?_
    refine TQ.rets [4] _ rfl rfl rfl ?_
    exact ⟨by rw [hno, List.drop_of_length_le (by omega)]; rfl, rfl⟩
set_option maxHeartbeats 2000000 in
theorem Contains_fn {a : Option Addr} {xs : List Int} {c : Nat} (n : Int) (hx : Row S w0 η a (ints xs)) (hl : xs.length < 2 ^ 63) :
    Rt Try.prog 50 [.slice a xs.length c, .int .i64 n].toArray S w0 η (fun v η' => v = .bool (decide (n ∈ xs)) ∧ η' = η) := by
  have hF := open_wide
  refine Rt.of (fn := Try.f50) Try.func50 rfl rfl ?_
  refine T.seq ?_
  refine T.region ?_
  refine TL.assign hF rfl rfl ?_
  refine TL.nil ?_
  refine TQ.then_n ?_
  refine T.seq ?_
  refine T.region ?_
  refine TL.move hF rfl rfl ?_
  refine TL.move hF rfl rfl ?_
  refine TL.callV hF (Index_fn n hx hl) rfl rfl ?_
  refine TL.bin hF rfl rfl rfl rfl ?_
  refine TL.assign hF rfl rfl ?_
  refine TL.nil ?_
  refine TQ.then_n ?_
  refine T.ret ?_
  refine TQ.rets [4] _ rfl rfl rfl ?_
  exact ⟨congrArg Value.bool (by rw [Bool.eq_iff_iff]; simp only [decide_eq_true_eq]; exact whereA_ge), rfl⟩
set_option maxHeartbeats 2000000 in
theorem IndexFunc_fn {a : Option Addr} {xs : List Int} {c lb rb : Nat} {p : Int → Bool} (hx : Row S w0 η a (ints xs)) (hl : xs.length < 2 ^ 63) (hp : ∀ x ∈ xs, Rt Try.prog 52 [.int .i64 x, ptr lb, ptr rb].toArray S w0 η (fun v η' => v = .bool (p x) ∧ η' = η)) :
    Rt Try.prog 66 [.slice a xs.length c, .func (.func 52) #[] #[ptr lb, ptr rb]].toArray S w0 η (fun v η' => v = .int .i64 (whereP p xs 0) ∧ η' = η) := by
  have hF := open_wide
  refine Rt.of (fn := Try.f66) Try.func66 rfl rfl ?_
  refine T.seq ?_
  refine T.region ?_
  refine TL.assign hF rfl rfl ?_
  refine TL.nil ?_
  refine TQ.then_n ?_
  refine T.seq ?_
  refine T.seq ?_
  refine T.region ?_
  refine TL.move hF rfl rfl ?_
  refine TL.len hF rfl rfl ?_
  refine TL.move hF rfl rfl ?_
  refine TL.nil ?_
  refine TQ.then_n ?_
  refine T.block ?_
  refine T.loop (ι := Nat) (fun k => k ≤ xs.length ∧ whereP p xs 0 = whereP p (xs.drop k) k) (fun k => [(0, .slice a xs.length c), (1, .func (.func 52) #[] #[ptr lb, ptr rb]), (7, .int .i64 (xs.length : Int)), (8, .int .i64 (k : Int))]) (fun _ => η) (fun k => xs.length - k) 0 ⟨Nat.zero_le _, by simp⟩ ⟨rfl, rfl, rfl, rfl, trivial⟩ rfl ?_
  rintro k ⟨hk, hno⟩
  refine T.seq ?_
  refine T.region ?_
  refine TL.bin hF rfl rfl rfl rfl ?_
  refine TL.nil ?_
  refine TQ.then_n ?_
  refine T.seq ?_
  first | refine T.cond_d rfl (fun ht9 => ?_) (fun ht9 => ?_) | refine T.cond _ rfl (fun ht9 => ?_) (fun ht9 => ?_)
  · refine T.skip ?_
    refine TQ.then_n ?_
    refine T.seq ?_
    refine T.block ?_
    refine T.seq ?_
    refine T.region ?_
    refine TL.move hF rfl rfl ?_
    refine TL.assign hF rfl rfl ?_
    refine TL.nil ?_
    refine TQ.then_n ?_
    refine T.seq ?_
    refine T.region ?_
    refine TL.move hF rfl rfl ?_
    refine TL.move hF rfl rfl ?_
    refine TL.move hF rfl rfl ?_
    refine TL.indexAddr hF rfl rfl (hx.adi (i := k) (by simp; omega)) (by omega) (by omega) rfl ?_
    refine TL.load hF rfl (hx.int (i := k) (by omega)) rfl ?_
    refine TL.callV hF (hp (xs[k]'(by omega)) (List.getElem_mem _)) rfl rfl ?_
    refine TL.nil ?_
    refine TQ.then_n ?_
    refine T.cond _ rfl (fun ht16 => ?_) (fun ht16 => ?_)
    · refine T.seq ?_
      refine T.region ?_
      refine TL.move hF rfl rfl ?_
      refine TL.assign hF rfl rfl ?_
      refine TL.nil ?_
      refine TQ.then_n ?_
      refine T.ret ?_
      refine TQ.block_r ?_
      refine TQ.then_r ?_
      refine TQ.then_r ?_
      refine TQ.block_r ?_
      refine TQ.then_r ?_
      refine TQ.rets [4] _ rfl rfl rfl ?_
      exact ⟨by rw [hno, drop_step (by omega), whereP, if_pos ht16]; rfl, rfl⟩
    · refine T.skip ?_
      refine TQ.block_n ?_
      refine TQ.then_n ?_
      refine T.region ?_
      refine TL.add hF rfl rfl (by omega) (by omega) rfl ?_
      refine TL.move hF rfl rfl ?_
      refine TL.nil ?_
      refine TQ.round (k + 1) ⟨by omega, by rw [hno, drop_step (by omega), whereP, if_neg (by simp [ht16])]⟩ (by omega) ⟨rfl, rfl, rfl, rfl, trivial⟩ rfl
  · refine T.exit ?_
    refine TQ.then_x ?_
    refine TQ.then_x ?_
    refine TQ.block_x ?_
    refine TQ.then_n ?_
    refine T.seq ?_
    refine T.region ?_
    refine TL.assign hF rfl rfl ?_
    refine TL.nil ?_
    refine TQ.then_n ?_
    refine T.ret ?_
    refine TQ.rets [4] _ rfl rfl rfl ?_
    exact ⟨by rw [hno, List.drop_of_length_le (by omega)]; rfl, rfl⟩
set_option maxHeartbeats 2000000 in
theorem ContainsFunc_fn {a : Option Addr} {xs : List Int} {c lb rb : Nat} {p : Int → Bool} (hx : Row S w0 η a (ints xs)) (hl : xs.length < 2 ^ 63) (hp : ∀ x ∈ xs, Rt Try.prog 52 [.int .i64 x, ptr lb, ptr rb].toArray S w0 η (fun v η' => v = .bool (p x) ∧ η' = η)) :
    Rt Try.prog 51 [.slice a xs.length c, .func (.func 52) #[] #[ptr lb, ptr rb]].toArray S w0 η (fun v η' => v = .bool (xs.any p) ∧ η' = η) := by
  have hF := open_wide
  refine Rt.of (fn := Try.f51) Try.func51 rfl rfl ?_
  refine T.seq ?_
  refine T.region ?_
  refine TL.assign hF rfl rfl ?_
  refine TL.nil ?_
  refine TQ.then_n ?_
  refine T.seq ?_
  refine T.region ?_
  refine TL.move hF rfl rfl ?_
  refine TL.move hF rfl rfl ?_
  refine TL.callV hF (IndexFunc_fn hx hl hp) rfl rfl ?_
  refine TL.bin hF rfl rfl rfl rfl ?_
  refine TL.assign hF rfl rfl ?_
  refine TL.nil ?_
  refine TQ.then_n ?_
  refine T.ret ?_
  refine TQ.rets [4] _ rfl rfl rfl ?_
  exact ⟨congrArg Value.bool (by rw [Bool.eq_iff_iff]; simp only [decide_eq_true_eq]; exact whereP_ge), rfl⟩
set_option maxHeartbeats 2000000 in
theorem reachBit_fn {lb rb n r s : Nat} {E : Nat → Nat → Bool} (hn : n ≤ 48) (hr : r < n) (hs : s < n) (h1 : gseg lb (gC E n n) ∈ η) (h2 : [(rb, Obj.cells #[.int .i64 (r : Int)] 3 (0, 0))] ∈ η) :
    Rt Try.prog 52 [.int .i64 (s : Int), ptr lb, ptr rb].toArray S w0 η (fun v η' => v = .bool (fwM E n r s) ∧ η' = η) := by
  have hF := open_wide
  refine Rt.of (fn := Try.f52) Try.func52 rfl rfl ?_
  refine T.seq ?_
  refine T.region ?_
  refine TL.assign hF rfl rfl ?_
  refine TL.nil ?_
  refine TQ.then_n ?_
  refine T.seq ?_
  refine T.region ?_
  refine TL.load hF rfl (own_mem h2 rfl) rfl ?_
  refine TL.move hF rfl rfl ?_
  refine TL.indexAddrA hF rfl rfl (by omega) (by omega) rfl ?_
  refine TL.indexAddrA hF rfl rfl (by omega) (by omega) rfl ?_
  refine TL.load hF rfl (gseg_at (E := E) (n := n) (a := r) (k := s) h1 hn hr hs) rfl ?_
  refine TL.assign hF rfl rfl ?_
  refine TL.nil ?_
  refine TQ.then_n ?_
  refine T.ret ?_
  refine TQ.rets [4] _ rfl rfl rfl ?_
  exact ⟨rfl, rfl⟩
set_option maxHeartbeats 2000000 in
theorem listed_fn {g : Nat} [Ent Try.prog g] {cap : List Value} {L : List Nat} {Ctx : Heap → Prop} (hit : Iter Try.prog g [] cap (L.map fun s : Nat => [Value.int .i64 (s : Int)]) S w0 Ctx) (hctx : ∀ η', (∀ x ∈ η, x ∈ η') → Ctx η') (hL : L.length ≤ 1000) :
    Rt Try.prog 48 [.func (.func g) #[] cap.toArray].toArray S w0 η (fun v η' => ∃ a c seg, v = .slice a L.length c ∧ η' = seg :: η ∧ OSl 3 1 (.slice a L.length c) L.length (nats L) seg) := by
  have hF := open_wide
  refine Rt.ofL (fn := Try.f48) Try.func48 rfl rfl ?_
  refine T.seq ?_
  refine T.region ?_
  refine TL.alloc hF rfl (fun b2 => ?_)
  refine TL.nil ?_
  refine TQ.then_n ?_
  refine T.seq ?_
  refine T.seq ?_
  refine T.region ?_
  refine TL.move hF rfl rfl ?_
  refine TL.nil ?_
  refine TQ.then_n ?_
  refine T.block ?_
  refine T.hnil ?_
  refine T.rangeFunc (fst := []) (cap := cap) rfl hit (by
      intro e he; obtain ⟨s, _, rfl⟩ := List.mem_map.1 he; rfl) (by simp) (fun i η1 => ∃ a c seg, η1 = seg :: [(b2, .cells #[.slice a i c] 23 (0, 0))] :: η ∧ OSl 3 1 (.slice a i c) i (nats (L.take i)) seg) (fun _ _ => False) ⟨none, 0, [], rfl, OSl.nil 3 1⟩ ?_ ?_ ?_ ?_
  · rintro i _ tl ⟨a, c, seg, rfl, _⟩
    exact hctx _ (fun x hx => by simp [hx])
  · rintro l tl tl' i e _ hie ⟨a, c, seg, rfl, ho⟩
    have hF := open_round l
    have hil : i < L.length := by have := (List.getElem?_eq_some_iff.1 hie).1; simpa using this
    have hee : e = [.int .i64 ((L[i] : Nat) : Int)] := by
      have := (List.getElem?_eq_some_iff.1 hie).2; rw [← this]; simp
    subst hee
    refine T.region ?_
    refine TL.assign hF rfl rfl ?_
    refine TL.nil ?_
    refine TQ.swapT _ rfl ?_
    refine T.block ?_
    refine T.region ?_
    refine TL.load hF rfl (own_mem (cs := #[.slice a i c]) (e := 23) (fz := (0, 0)) (by simp) rfl) rfl ?_
    refine TL.move hF rfl rfl ?_
    refine TL.buildSlice hF rfl (cs := #[.int .i64 ((L[i] : Nat) : Int)]) (e := 3) (fun w => by kernel_rfl) rfl (fun b8 => ?_)
    refine TL.append hF 1 rfl rfl rfl ho (row_own (cs := [.int .i64 ((L[i] : Nat) : Int)]) (e := 3) (by simp)).src rfl rfl (by simp [Value.oneCell']) (by omega) (by omega) rfl (fun a' cap' seg' ho' => ?_)
    refine TL.storeI hF 2 rfl rfl rfl rfl (by simp) ?_
    refine TL.nil ?_
    refine TQ.block_n ?_
    refine TQ.pop ?_
    exact TQ.rq_n (seg' :: [(b2, .cells #[.slice a' (i + 1) cap'] 23 (0, 0))] :: η) rfl ⟨a', cap', seg', rfl, by
      have e : nats (L.take (i + 1)) = nats (L.take i) ++ [.int .i64 ((L[i] : Nat) : Int)] := by rw [List.take_succ_eq_append_getElem hil, nats, List.map_append]; rfl
      rw [e]; exact ho'⟩
  · rintro mk _ ⟨a, c, seg, rfl, ho⟩
    rw [List.length_map] at ho ⊢
    refine TQ.block_n ?_
    refine TQ.then_n ?_
    refine T.seq ?_
    refine T.region ?_
    refine TL.load hF rfl (own_mem (cs := #[.slice a L.length c]) (e := 23) (fz := (0, 0)) (by simp) rfl) rfl ?_
    refine TL.storeI hF 2 rfl rfl rfl rfl (by simp) ?_
    refine TL.nil ?_
    refine TQ.then_n ?_
    refine T.ret ?_
    refine TQ.mark (i := 0) (.inl rfl) rfl ?_
    rw [List.take_length] at ho
    refine TQ.retLC1 (x := .slice a L.length c) (seg :: η) rfl rfl (At.own' (i := 2) rfl rfl) (List.Sublist.cons _ (List.Sublist.cons_cons _ (List.sublist_cons_self _ _))) ⟨a, c, seg, rfl, rfl, ho⟩
  · rintro _ _ _ h; exact h.elim
end Go.Proofs.Ytdehpaikapbckaa
/- What changes reach, by the program. -/
namespace Go.Proofs.Ytdehpaikapbckaa
open Go.Sl
variable {S : Nat → Prop} {w0 : World} {η : Heap}
def ReachC (b3 b9 ob lb n : Nat) (fr : List Int) (E : Nat → Nat → Bool) (η : Heap) : Prop :=
  [(b3, Obj.cells #[.int .i64 (n : Int)] 3 (0, 0))] ∈ η ∧ [(b9, Obj.cells #[.slice (some ⟨ob, 0, none⟩) fr.length fr.length] 23 (0, 0))] ∈ η ∧ [(ob, Obj.cells (ints fr).toArray 3 (0, 0))] ∈ η ∧ gseg lb (gC E n n) ∈ η
theorem in_nats {n : Nat} {fr : List Int} (h : inAll n fr = true) {x : Int} (hx : x ∈ fr) : 0 ≤ x ∧ x < n := by simpa [inR] using inAll_iff.1 h x hx
theorem hits_eq {n k : Nat} {fr : List Int} {M : Nat → Nat → Bool} (h : inAll n fr = true) : hits M (fr.map Int.toNat) k = (decide ((k : Int) ∈ fr) || fr.any fun x => M k x.toNat) := by
  unfold hits
  rw [List.any_map]
  congr 1
  rw [Bool.eq_iff_iff]; simp only [decide_eq_true_eq, List.contains_iff_mem, List.mem_map]
  constructor
  · rintro ⟨x, hx, he⟩
    have := in_nats h hx
    have : x = (k : Int) := by omega
    rw [← this]; exact hx
  · intro h; exact ⟨_, h, by simp⟩

set_option maxHeartbeats 2000000 in
theorem reach_iter {b3 b9 ob lb n : Nat} {fr : List Int} {E : Nat → Nat → Bool} (hn : n ≤ 48) (hfl : fr.length < 2 ^ 63) (hin : inAll n fr = true) :
    Iter Try.prog 49 [] [ptr b3, ptr b9, ptr lb] (((List.range n).filter (hits (fwM E n) (fr.map Int.toNat))).map fun s : Nat => [Value.int .i64 (s : Int)]) S w0 (ReachC b3 b9 ob lb n fr E) := by
  intro l J X η hC hY h0
  have hF := open_wide
  refine Rt.of (fn := Try.f49) Try.func49 rfl rfl ?_
  refine T.seq ?_
  refine T.region ?_
  refine TL.load hF rfl (own_mem (hC _ _ h0).1 rfl) rfl ?_
  refine TL.move hF rfl rfl ?_
  refine TL.nil ?_
  refine TQ.then_n ?_
  refine T.block ?_
  refine T.loop (ι := Nat × Heap) (fun i => i.1 ≤ n ∧ J ((List.range i.1).filter (hits (fwM E n) (fr.map Int.toNat))).length i.2) (fun i => [(0, .func (.yield l) #[] #[]), (1, ptr b3), (2, ptr b9), (3, ptr lb), (7, .int .i64 (n : Int)), (8, .int .i64 (i.1 : Int))]) (fun i => i.2) (fun i => n - i.1) (0, η) ⟨Nat.zero_le _, h0⟩ ⟨rfl, rfl, rfl, rfl, rfl, rfl, trivial⟩ rfl ?_
  rintro ⟨k, η1⟩ ⟨hk1, hJ⟩
  simp only at hk1 hJ
  obtain ⟨hc1, hc2, hc3, hc4⟩ := hC _ _ hJ
  have hht := hits_eq (M := fwM E n) (k := k) hin
  refine T.seq ?_
  refine T.region ?_
  refine TL.bin hF rfl rfl rfl rfl ?_
  refine TL.nil ?_
  refine TQ.then_n ?_
  refine T.seq ?_
  first | refine T.cond_d rfl (fun ht9 => ?_) (fun ht9 => ?_) | refine T.cond _ rfl (fun ht9 => ?_) (fun ht9 => ?_)
  · refine T.skip ?_
    refine TQ.then_n ?_
    refine T.seq ?_
    refine T.block ?_
    refine T.seq ?_
    refine T.region ?_
    refine TL.move hF rfl rfl ?_
    refine TL.alloc hF rfl (fun b5 => ?_)
    refine TL.storeI hF 0 rfl rfl rfl rfl (by simp [Value.cells]) ?_
    refine TL.nil ?_
    refine TQ.then_n ?_
    refine T.seq ?_
    refine T.region ?_
    have hkn : k < n := by have h : (k : Int) < n := ht9; omega
    have hbits : ∀ (η2 : Heap), gseg lb (gC E n n) ∈ η2 → ∀ rb, [(rb, Obj.cells #[.int .i64 (k : Int)] 3 (0, 0))] ∈ η2 → ∀ x ∈ fr, Rt Try.prog 52 [.int .i64 x, ptr lb, ptr rb].toArray S w0 η2 (fun v η3 => v = .bool (fwM E n k x.toNat) ∧ η3 = η2) := by
      intro η2 h1 rb h2 x hx
      have h := in_nats hin hx
      obtain ⟨s, rfl⟩ : ∃ s : Nat, x = (s : Int) := ⟨x.toNat, by omega⟩
      rw [Int.toNat_natCast]
      exact reachBit_fn (E := E) hn hkn (by omega) h1 h2
    refine TL.load hF rfl (own_mem (upc _ hc2) rfl) rfl ?_
    refine TL.load hF rfl (by first | exact At.own' (i := 0) rfl rfl | exact At.own' (i := 1) rfl rfl | exact At.own' (i := 2) rfl rfl | exact At.own' (i := 3) rfl rfl | exact At.own' (i := 4) rfl rfl) rfl ?_
    refine TL.callV hF (Contains_fn (xs := fr) (k : Int) (row_own (upc _ hc3)) hfl) rfl rfl ?_
    refine TL.move hF rfl rfl ?_
    refine TL.gd (t := 14) rfl (fun g3_14 => ?_) (fun g3_14 => ?_)
    · refine TL.off hF rfl rfl rfl (decide_eq_true g3_14) rfl ?_
      refine TL.off hF rfl rfl rfl (decide_eq_true g3_14) rfl ?_
      refine TL.off hF rfl rfl rfl (decide_eq_true g3_14) rfl ?_
      refine TL.pickT hF rfl (decide_eq_true g3_14) rfl rfl ?_
      refine TL.assign hF rfl rfl ?_
      refine TL.nil ?_
      refine TQ.then_n ?_
      refine T.seq ?_
      refine T.region ?_
      refine TL.move hF rfl rfl ?_
      refine TL.move hF rfl rfl ?_
      refine TL.on rfl rfl rfl rfl ?_
      refine TL.move hF rfl rfl ?_
      refine TL.on rfl rfl rfl rfl ?_
      refine TL.load hF rfl (by first | exact At.own' (i := 0) rfl rfl | exact At.own' (i := 1) rfl rfl | exact At.own' (i := 2) rfl rfl | exact At.own' (i := 3) rfl rfl | exact At.own' (i := 4) rfl rfl) rfl ?_
      refine TL.on rfl rfl rfl rfl ?_
      have hp : (hits (fwM E n) (fr.map Int.toNat)) k = true := by rw [hht]; simp_all
      refine TL.hsub η1 (List.sublist_cons_self _ _) ?_
      refine TL.yield rfl rfl rfl (hY _ _ _ (filter_enc (p := (hits (fwM E n) (fr.map Int.toNat))) hkn hp) hJ) rfl (fun yb η2 hyb => ?_)
      refine TL.on rfl rfl rfl rfl ?_
      refine TL.not hF rfl rfl ?_
      refine TL.pickT hF rfl rfl rfl rfl ?_
      refine TL.nil ?_
      refine TQ.then_n ?_
      refine T.cond _ rfl (fun ht25 => ?_) (fun ht25 => ?_)
      · refine T.ret ?_
        refine TQ.block_r ?_
        refine TQ.then_r ?_
        refine TQ.then_r ?_
        refine TQ.block_r ?_
        refine TQ.rets [] _ rfl rfl rfl ?_
        have hyf : yb = false := by simpa using ht25
        subst hyf
        exact .inr hyb
      · refine T.skip ?_
        refine TQ.block_n ?_
        refine TQ.then_n ?_
        refine T.region ?_
        refine TL.add hF rfl rfl (by omega) (by omega) rfl ?_
        refine TL.move hF rfl rfl ?_
        refine TL.nil ?_
        have hyt : yb = true := by simpa using ht25
        subst hyt
        exact TQ.round (k + 1, η2) ⟨by simp only; omega, by simp only; rw [filter_succ, if_pos hp]; exact hyb⟩ (by simp only; omega) ⟨rfl, rfl, rfl, rfl, rfl, rfl, trivial⟩ rfl
    · refine TL.on rfl rfl rfl (decide_eq_false g3_14) ?_
      refine TL.load hF rfl (own_mem (upc _ hc2) rfl) rfl ?_
      refine TL.on rfl rfl rfl (decide_eq_false g3_14) ?_
      refine TL.makeFunc hF rfl rfl rfl ?_
      refine TL.on rfl rfl rfl (decide_eq_false g3_14) ?_
      refine TL.callV hF (ContainsFunc_fn (xs := fr) (p := fun x => fwM E n k x.toNat) (row_own (upc _ hc3)) hfl (hbits _ (upc _ hc4) _ List.mem_cons_self)) rfl rfl ?_
      refine TL.pickF hF rfl (decide_eq_false g3_14) rfl rfl ?_
      refine TL.assign hF rfl rfl ?_
      refine TL.nil ?_
      refine TQ.then_n ?_
      refine T.seq ?_
      refine T.region ?_
      refine TL.move hF rfl rfl ?_
      refine TL.move hF rfl rfl ?_
      refine TL.gb (t := 20) rfl (fun g4_20 => ?_) (fun g4_20 => ?_)
      · refine TL.on rfl rfl rfl g4_20 ?_
        refine TL.move hF rfl rfl ?_
        refine TL.on rfl rfl rfl g4_20 ?_
        refine TL.load hF rfl (by first | exact At.own' (i := 0) rfl rfl | exact At.own' (i := 1) rfl rfl | exact At.own' (i := 2) rfl rfl | exact At.own' (i := 3) rfl rfl | exact At.own' (i := 4) rfl rfl) rfl ?_
        refine TL.on rfl rfl rfl g4_20 ?_
        have hp : (hits (fwM E n) (fr.map Int.toNat)) k = true := by rw [hht]; simp_all
        refine TL.hsub η1 (List.sublist_cons_self _ _) ?_
        refine TL.yield rfl rfl rfl (hY _ _ _ (filter_enc (p := (hits (fwM E n) (fr.map Int.toNat))) hkn hp) hJ) rfl (fun yb η2 hyb => ?_)
        refine TL.on rfl rfl rfl g4_20 ?_
        refine TL.not hF rfl rfl ?_
        refine TL.pickT hF rfl g4_20 rfl rfl ?_
        refine TL.nil ?_
        refine TQ.then_n ?_
        refine T.cond _ rfl (fun ht25 => ?_) (fun ht25 => ?_)
        · refine T.ret ?_
          refine TQ.block_r ?_
          refine TQ.then_r ?_
          refine TQ.then_r ?_
          refine TQ.block_r ?_
          refine TQ.rets [] _ rfl rfl rfl ?_
          have hyf : yb = false := by simpa using ht25
          subst hyf
          exact .inr hyb
        · refine T.skip ?_
          refine TQ.block_n ?_
          refine TQ.then_n ?_
          refine T.region ?_
          refine TL.add hF rfl rfl (by omega) (by omega) rfl ?_
          refine TL.move hF rfl rfl ?_
          refine TL.nil ?_
          have hyt : yb = true := by simpa using ht25
          subst hyt
          exact TQ.round (k + 1, η2) ⟨by simp only; omega, by simp only; rw [filter_succ, if_pos hp]; exact hyb⟩ (by simp only; omega) ⟨rfl, rfl, rfl, rfl, rfl, rfl, trivial⟩ rfl
      · refine TL.off hF rfl rfl rfl g4_20 rfl ?_
        refine TL.off hF rfl rfl rfl g4_20 rfl ?_
        refine TL.off hF rfl rfl rfl g4_20 rfl ?_
        refine TL.off hF rfl rfl rfl g4_20 rfl ?_
        refine TL.pickF hF rfl g4_20 rfl rfl ?_
        refine TL.nil ?_
        refine TQ.then_n ?_
        refine T.cond_f rfl rfl ?_
        refine T.skip ?_
        refine TQ.block_n ?_
        refine TQ.then_n ?_
        refine T.region ?_
        refine TL.add hF rfl rfl (by omega) (by omega) rfl ?_
        refine TL.move hF rfl rfl ?_
        refine TL.nil ?_
        have hp : ¬ (hits (fwM E n) (fr.map Int.toNat)) k = true := by rw [hht]; simp_all
        refine TQ.pop ?_
        exact TQ.round (k + 1, η1) ⟨by simp only; omega, by simp only; rw [filter_succ, if_neg hp]; exact hJ⟩ (by simp only; omega) ⟨rfl, rfl, rfl, rfl, rfl, rfl, trivial⟩ rfl
  · refine T.exit ?_
    refine TQ.then_x ?_
    refine TQ.then_x ?_
    refine TQ.block_x ?_
    refine TQ.norm ?_
    refine TQ.rets [] _ rfl rfl rfl ?_
    have hkn : k = n := by have h : ¬ (k : Int) < n := ht9; omega
    subst hkn
    left; simpa using hJ
set_option maxHeartbeats 2000000 in
theorem Reach_prog {p fa : Option Addr} {rs : List RuleD} {fr : List Int} {c fc : Nat} (rels : Int) (hr : Rules S w0 [] p rs) (hl : rs.length < 2 ^ 63) (hbl : ∀ r ∈ rs, r.body.length < 2 ^ 63) (hfr : Row S w0 [] fa (ints fr)) (hfl : fr.length ≤ 1000) :
    Rt Try.prog 16 [.int .i64 rels, .slice p rs.length c, .slice fa fr.length fc].toArray S w0 η (fun v η' => ∃ a cap segs, v = .tuple #[.slice a (reachS rels rs fr).1.length cap, .int .i64 (reachS rels rs fr).2] ∧ η' = segs ++ η ∧ Row S w0 segs a (nats (reachS rels rs fr).1)) := by
  have hF := open_wide
  refine Rt.ofL (fn := Try.f16) Try.func16 rfl rfl ?_
  refine T.seq ?_
  refine T.region ?_
  refine TL.box hF rfl rfl (fun b3 => ?_)
  refine TL.assign hF rfl rfl ?_
  refine TL.alloc hF rfl (fun b7 => ?_)
  refine TL.nil ?_
  refine TQ.then_n ?_
  refine T.seq ?_
  refine T.region ?_
  refine TL.makeFunc hF rfl rfl rfl ?_
  refine TL.defer hF rfl rfl ?_
  refine TL.nil ?_
  refine TQ.then_n ?_
  refine T.seq ?_
  refine T.region ?_
  refine TL.load hF rfl (by first | exact At.own' (i := 0) rfl rfl | exact At.own' (i := 1) rfl rfl | exact At.own' (i := 2) rfl rfl | exact At.own' (i := 3) rfl rfl | exact At.own' (i := 4) rfl rfl) rfl ?_
  refine TL.move hF rfl rfl ?_
  refine TL.callE hF (opened_fn rels hr hl hbl) rfl rfl ?_ ?_
  · rintro _ _ ⟨hck, bw, bm, es, clock, m, rfl, rfl, hwo, hw⟩
    obtain ⟨hk1, hk2, hk3, hk4⟩ := check_ok hck
    obtain ⟨n, rfl⟩ : ∃ n : Nat, rels = (n : Int) := ⟨rels.toNat, by omega⟩
    have hU := uok hk4
    refine TL.assign hF rfl rfl ?_
    refine TL.nil ?_
    refine TQ.then_n ?_
    refine T.seq ?_
    refine T.region ?_
    refine TL.move hF rfl rfl ?_
    refine TL.len hF rfl rfl ?_
    refine TL.makeSlice hF (k := fr.length) rfl rfl rfl (by omega) (by omega) rfl (fun ob => ?_)
    refine TL.alloc hF rfl (fun b9 => ?_)
    first | refine TL.storeI hF 0 rfl rfl rfl rfl (by first | decide | simp) ?_ | refine TL.storeI hF 1 rfl rfl rfl rfl (by first | decide | simp) ?_ | refine TL.storeI hF 2 rfl rfl rfl rfl (by first | decide | simp) ?_ | refine TL.storeI hF 3 rfl rfl rfl rfl (by first | decide | simp) ?_
    refine TL.nil ?_
    refine TQ.then_n ?_
    refine T.seq ?_
    refine T.region ?_
    refine TL.load hF rfl (by first | exact At.own' (i := 0) rfl rfl | exact At.own' (i := 1) rfl rfl | exact At.own' (i := 2) rfl rfl | exact At.own' (i := 3) rfl rfl | exact At.own' (i := 4) rfl rfl) rfl ?_
    refine TL.move hF rfl rfl ?_
    refine TL.copy hF 1 (cs := List.replicate fr.length (.int .i64 0)) (e' := 3) (k := fr.length) (ints fr) (ints fr) rfl rfl rfl (by simp) hfr.ro (by simp) (by simp [Value.oneCell']) (by simp) (by simp) rfl ?_
    refine TL.nil ?_
    refine TQ.then_n ?_
    refine T.seq ?_
    refine T.seq ?_
    refine T.region ?_
    refine TL.load hF rfl (by first | exact At.own' (i := 0) rfl rfl | exact At.own' (i := 1) rfl rfl | exact At.own' (i := 2) rfl rfl | exact At.own' (i := 3) rfl rfl | exact At.own' (i := 4) rfl rfl) rfl ?_
    refine TL.len hF rfl rfl ?_
    refine TL.move hF rfl rfl ?_
    refine TL.nil ?_
    refine TQ.then_n ?_
    refine T.block ?_
    refine T.loop (ι := Nat) (fun k => k ≤ fr.length ∧ inAll n fr = inAll n (fr.drop k)) (fun k => [(3, ptr b3), (6, .slice none 0 0), (7, ptr b7), (8, ptr bw), (9, ptr b9), (23, .slice (some ⟨ob, 0, none⟩) fr.length fr.length), (24, .int .i64 (fr.length : Int)), (25, .int .i64 (k : Int))]) (fun _ => [(b9, .cells #[.slice (some ⟨ob, 0, none⟩) fr.length fr.length] 23 (0, 0))] :: [(ob, .cells (ints fr).toArray 3 (0, 0))] :: wseg bw bm (n : Int) :: [(bm, .map es clock)] :: [(b7, .cells #[.int .i64 0] 27 (0, 0))] :: [(b3, .cells #[.int .i64 (n : Int)] 3 (0, 0))] :: η) (fun k => fr.length - k) 0 ⟨Nat.zero_le _, by simp⟩ ⟨rfl, rfl, rfl, rfl, rfl, rfl, rfl, rfl, trivial⟩ rfl ?_
    rintro k ⟨hk, hs⟩
    have hrow : Row S w0 ([(b9, .cells #[.slice (some ⟨ob, 0, none⟩) fr.length fr.length] 23 (0, 0))] :: [(ob, .cells (ints fr).toArray 3 (0, 0))] :: wseg bw bm (n : Int) :: [(bm, .map es clock)] :: [(b7, .cells #[.int .i64 0] 27 (0, 0))] :: [(b3, .cells #[.int .i64 (n : Int)] 3 (0, 0))] :: η) (some ⟨ob, 0, none⟩) (ints fr) := row_own (e := 3) (by simp)
    refine T.seq ?_
    refine T.region ?_
    refine TL.bin hF rfl rfl rfl rfl ?_
    refine TL.nil ?_
    refine TQ.then_n ?_
    refine T.seq ?_
    first | refine T.cond_d rfl (fun ht26 => ?_) (fun ht26 => ?_) | refine T.cond _ rfl (fun ht26 => ?_) (fun ht26 => ?_)
    · refine T.skip ?_
      refine TQ.then_n ?_
      refine T.seq ?_
      refine T.block ?_
      refine T.seq ?_
      refine T.region ?_
      refine TL.indexAddr hF rfl rfl (hrow.adi (i := k) (by simp; omega)) (by omega) (by omega) rfl ?_
      refine TL.load hF rfl (hrow.int (i := k) (by omega)) rfl ?_
      refine TL.assign hF rfl rfl ?_
      refine TL.nil ?_
      refine TQ.then_n ?_
      refine T.region ?_
      refine TL.move hF rfl rfl ?_
      refine TL.build hF rfl (r := .agg #[.int .i64 (fr[k]'(by omega))]) (fun w => by kernel_rfl) rfl ?_
      refine TL.load hF rfl (own_mem (cs := #[.int .i64 (n : Int)]) (e := 3) (fz := (0, 0)) (by simp) rfl) rfl ?_
      refine TL.callM hF (headClear_fn (fr[k]'(by omega)) n) rfl rfl (fun hin v32 => ?_) (fun hin => ?_)
      · 
        refine TL.nil ?_
        refine TQ.block_n ?_
        refine TQ.then_n ?_
        refine T.region ?_
        refine TL.add hF rfl rfl (by omega) (by omega) rfl ?_
        refine TL.move hF rfl rfl ?_
        refine TL.nil ?_
        exact TQ.round (k + 1) ⟨by omega, by rw [hs, drop_step (by omega), inAll, hin, Bool.true_and]⟩ (by omega) ⟨rfl, rfl, rfl, rfl, rfl, rfl, rfl, rfl, trivial⟩ rfl
      · skip
        refine TQ.block_p ?_
        refine TQ.then_p ?_
        refine TQ.then_p ?_
        refine TQ.block_p ?_
        refine TQ.then_p ?_
        have hf : inAll n fr = false := by rw [hs, drop_step (by omega), inAll, hin, Bool.false_and]
        have e : reachS n rs fr = ([], 2) := by unfold reachS; rw [if_neg (by simpa using hck), if_pos hf]
        refine TQ.hsub ([(b7, .cells #[.int .i64 0] 27 (0, 0))] :: η) (List.Sublist.cons _ (List.Sublist.cons _ (List.Sublist.cons _ (List.Sublist.cons _ (List.Sublist.cons_cons _ (List.sublist_cons_self _ _)))))) ?_
        refine TQ.panL [6] [.slice none 0 0] stop45 (stopped_err 2) rfl rfl rfl (At.own' (i := 0) rfl rfl) ?_
        rw [e]
        exact ⟨none, 0, [[(b7, .cells #[.int .i64 2] 27 (0, 0))]], rfl, rfl, ⟨fun h => by simp at h, fun i v h => by simp at h⟩⟩
    · refine T.exit ?_
      refine TQ.then_x ?_
      refine TQ.then_x ?_
      refine TQ.block_x ?_
      refine TQ.then_n ?_
      refine T.seq ?_
      refine T.region ?_
      have hall : inAll n fr = true := by rw [hs, List.drop_of_length_le (by omega)]; rfl
      have hweb : Web ([(b9, .cells #[.slice (some ⟨ob, 0, none⟩) fr.length fr.length] 23 (0, 0))] :: [(ob, .cells (ints fr).toArray 3 (0, 0))] :: wseg bw bm (n : Int) :: [(bm, .map es clock)] :: [(b7, .cells #[.int .i64 0] 27 (0, 0))] :: [(b3, .cells #[.int .i64 (n : Int)] 3 (0, 0))] :: η) bw n (UR rs) m := ⟨⟨bm, es, clock, by simp, by simp, hwo⟩, hw⟩
      refine TL.move hF rfl rfl ?_
      refine TL.callV hF (leads_fn (n := n) (by omega) hweb) rfl rfl ?_
      refine TL.alloc hF rfl (fun b12 => ?_)
      rw [cells_rep 2304]
      refine TL.storeAs hF (rowC 2304 (gC (EN (UR rs)) n n)) (rowC 2304 (gC (EN (UR rs)) n n)) 0 (cs := List.replicate 2304 (.bool false)) rfl rfl rfl (rowC_len _ _) (rowC1 _ _) (by rw [List.length_replicate]; omega) (by rw [List.drop_of_length_le (by rw [List.length_replicate, rowC_len]; omega)]; simp) ?_
      refine TL.nil ?_
      refine TQ.then_n ?_
      refine T.seq ?_
      refine T.region ?_
      refine TL.makeFunc hF rfl rfl rfl ?_
      refine TL.call hF (listed_fn (cap := [ptr b3, ptr b9, ptr b12]) (reach_iter (E := EN (UR rs)) (n := n) (fr := fr) (ob := ob) (by omega) (by omega) hall) (fun η2 h => ⟨h _ (upc _ (upc _ (upc _ (upc _ (upc _ (upc _ List.mem_cons_self)))))), h _ (upc _ List.mem_cons_self), h _ (upc _ (upc _ List.mem_cons_self)), h _ List.mem_cons_self⟩) (by have h := List.length_filter_le (p := hits (fwM (EN (UR rs)) n) (fr.map Int.toNat)) (l := List.range n); simp at h; omega)) rfl rfl ?_
      rintro _ _ ⟨la, lc, lg, rfl, rfl, hlo⟩
      refine TL.assign hF rfl rfl ?_
      refine TL.storeI hF 6 rfl rfl rfl rfl (by simp) ?_
      refine TL.nil ?_
      refine TQ.then_n ?_
      refine T.ret ?_
      have e : reachS n rs fr = ((List.range n).filter (hits (fwM (EN (UR rs)) n) (fr.map Int.toNat)), 0) := by unfold reachS; rw [if_neg (by simpa using hck), if_neg (by simp [hall]), Int.toNat_natCast]
      refine TQ.hsub (lg :: [(b7, .cells #[.int .i64 0] 27 (0, 0))] :: η) (List.Sublist.cons_cons _ (List.Sublist.cons _ (List.Sublist.cons _ (List.Sublist.cons _ (List.Sublist.cons _ (List.Sublist.cons _ (List.Sublist.cons_cons _ (List.sublist_cons_self _ _)))))))) ?_
      refine TQ.retL [6] _ stop45 (stopped_nil _) rfl rfl rfl (own_mem (cs := #[.int .i64 0]) (e := 27) (fz := (0, 0)) (by simp) rfl) ?_
      rw [e]
      exact ⟨la, lc, [lg, [(b7, .cells #[.int .i64 0] 27 (0, 0))]], rfl, rfl, hlo.row (by simp)⟩
  · rintro _ _ ⟨hck, rfl, rfl⟩
    refine TQ.then_p ?_
    refine TQ.hsub ([(b7, .cells #[.int .i64 0] 27 (0, 0))] :: η) (List.Sublist.cons_cons _ (List.sublist_cons_self _ _)) ?_
    refine TQ.panL [6] [.slice none 0 0] stop45 (stopped_err _) rfl rfl rfl (At.own' (i := 0) rfl rfl) ?_
    have e : reachS rels rs fr = ([], check rels rs) := by unfold reachS; rw [if_pos hck]
    rw [e]
    exact ⟨none, 0, [[(b7, .cells #[.int .i64 (check rels rs)] 27 (0, 0))]], rfl, rfl, ⟨fun h => by simp at h, fun i v h => by simp at h⟩⟩
end Go.Proofs.Ytdehpaikapbckaa
/- A list of one number again and again, and how far relations are, by the program. -/
namespace Go.Proofs.Ytdehpaikapbckaa
open Go.Sl
variable {S : Nat → Prop} {w0 : World} {η : Heap}
theorem hmask (a : Nat) (h : a < 4294967296) : a &&& 4294967295 = a := by
  rw [show 4294967295 = 2 ^ 32 - 1 from rfl, Nat.and_two_pow_sub_one_eq_mod]; exact Nat.mod_eq_of_lt h
theorem wrap0 : IntKind.u64.wrap 0 = 0 := by decide

set_option maxHeartbeats 2000000 in
theorem Mul64_fn (n : Nat) (hn : n ≤ 1000) :
    Rt Try.prog 72 [.int .u64 ((1 : Nat) : Int), .int .u64 (n : Int)].toArray S w0 η (fun v η' => v = .tuple #[.int .u64 0, .int .u64 (n : Int)] ∧ η' = η) := by
  have hF := open_wide
  refine Rt.of (fn := Try.f72) Try.func72 rfl rfl ?_
  refine T.seq ?_
  refine T.region ?_
  refine TL.assign hF rfl rfl ?_
  refine TL.assign hF rfl rfl ?_
  refine TL.nil ?_
  refine TQ.then_n ?_
  refine T.seq ?_
  refine T.region ?_
  refine TL.move hF rfl rfl ?_
  refine TL.andN hF (a := 1) (m := 4294967295) rfl rfl rfl (by show _ < 2 ^ 64; omega) (by decide) rfl ?_
  rw [show (1 &&& 4294967295 : Nat) = 1 from hmask _ (by omega)]
  refine TL.assign hF rfl rfl ?_
  refine TL.nil ?_
  refine TQ.then_n ?_
  refine T.seq ?_
  refine T.region ?_
  refine TL.move hF rfl rfl ?_
  refine TL.shrN hF (a := 1) (s := 32) rfl rfl (by decide) rfl ?_
  rw [show (1 / 2 ^ 32 : Nat) = 0 from Nat.div_eq_of_lt (by omega)]
  refine TL.assign hF rfl rfl ?_
  refine TL.nil ?_
  refine TQ.then_n ?_
  refine T.seq ?_
  refine T.region ?_
  refine TL.move hF rfl rfl ?_
  refine TL.andN hF (a := n) (m := 4294967295) rfl rfl rfl (by show _ < 2 ^ 64; omega) (by decide) rfl ?_
  rw [show (n &&& 4294967295 : Nat) = n from hmask _ (by omega)]
  refine TL.assign hF rfl rfl ?_
  refine TL.nil ?_
  refine TQ.then_n ?_
  refine T.seq ?_
  refine T.region ?_
  refine TL.move hF rfl rfl ?_
  refine TL.shrN hF (a := n) (s := 32) rfl rfl (by decide) rfl ?_
  rw [show (n / 2 ^ 32 : Nat) = 0 from Nat.div_eq_of_lt (by omega)]
  refine TL.assign hF rfl rfl ?_
  refine TL.nil ?_
  refine TQ.then_n ?_
  refine T.seq ?_
  refine T.region ?_
  refine TL.move hF rfl rfl ?_
  refine TL.move hF rfl rfl ?_
  refine TL.mulK hF (r := (n : Int)) rfl rfl (by first | (simp; done) | (simp; exact wrap_u64 (by omega) (by omega))) rfl ?_
  refine TL.assign hF rfl rfl ?_
  refine TL.nil ?_
  refine TQ.then_n ?_
  refine T.seq ?_
  refine T.region ?_
  refine TL.move hF rfl rfl ?_
  refine TL.move hF rfl rfl ?_
  refine TL.mulK hF (r := 0) rfl rfl (by first | (simp; done) | (simp; exact wrap_u64 (by omega) (by omega))) rfl ?_
  refine TL.move hF rfl rfl ?_
  refine TL.shrN hF (a := n) (s := 32) rfl rfl (by decide) rfl ?_
  rw [show (n / 2 ^ 32 : Nat) = 0 from Nat.div_eq_of_lt (by omega)]
  refine TL.addK hF (r := ((0 : Nat) : Int)) rfl rfl (by first | (simp; done) | (simp; exact wrap_u64 (by omega) (by omega))) rfl ?_
  refine TL.assign hF rfl rfl ?_
  refine TL.nil ?_
  refine TQ.then_n ?_
  refine T.seq ?_
  refine T.region ?_
  refine TL.move hF rfl rfl ?_
  refine TL.andN hF (a := 0) (m := 4294967295) rfl rfl rfl (by show _ < 2 ^ 64; omega) (by decide) rfl ?_
  rw [show (0 &&& 4294967295 : Nat) = 0 from hmask _ (by omega)]
  refine TL.assign hF rfl rfl ?_
  refine TL.nil ?_
  refine TQ.then_n ?_
  refine T.seq ?_
  refine T.region ?_
  refine TL.move hF rfl rfl ?_
  refine TL.shrN hF (a := 0) (s := 32) rfl rfl (by decide) rfl ?_
  rw [show (0 / 2 ^ 32 : Nat) = 0 from Nat.div_eq_of_lt (by omega)]
  refine TL.assign hF rfl rfl ?_
  refine TL.nil ?_
  refine TQ.then_n ?_
  refine T.seq ?_
  refine T.region ?_
  refine TL.move hF rfl rfl ?_
  refine TL.move hF rfl rfl ?_
  refine TL.move hF rfl rfl ?_
  refine TL.mulK hF (r := 0) rfl rfl (by first | (simp; done) | (simp; exact wrap_u64 (by omega) (by omega))) rfl ?_
  refine TL.addK hF (r := ((0 : Nat) : Int)) rfl rfl (by first | (simp; done) | (simp; exact wrap_u64 (by omega) (by omega))) rfl ?_
  refine TL.assign hF rfl rfl ?_
  refine TL.nil ?_
  refine TQ.then_n ?_
  refine T.seq ?_
  refine T.region ?_
  refine TL.move hF rfl rfl ?_
  refine TL.move hF rfl rfl ?_
  refine TL.mulK hF (r := 0) rfl rfl (by first | (simp; done) | (simp; exact wrap_u64 (by omega) (by omega))) rfl ?_
  refine TL.move hF rfl rfl ?_
  refine TL.addK hF (r := 0) rfl rfl (by first | (simp; done) | (simp; exact wrap_u64 (by omega) (by omega))) rfl ?_
  refine TL.move hF rfl rfl ?_
  refine TL.shrN hF (a := 0) (s := 32) rfl rfl (by decide) rfl ?_
  rw [show (0 / 2 ^ 32 : Nat) = 0 from Nat.div_eq_of_lt (by omega)]
  refine TL.addK hF (r := 0) rfl rfl (by first | (simp; done) | (simp; exact wrap_u64 (by omega) (by omega))) rfl ?_
  refine TL.assign hF rfl rfl ?_
  refine TL.nil ?_
  refine TQ.then_n ?_
  refine T.seq ?_
  refine T.region ?_
  refine TL.move hF rfl rfl ?_
  refine TL.move hF rfl rfl ?_
  refine TL.mulK hF (r := (n : Int)) rfl rfl (by first | (simp; done) | (simp; exact wrap_u64 (by omega) (by omega))) rfl ?_
  refine TL.assign hF rfl rfl ?_
  refine TL.nil ?_
  refine TQ.then_n ?_
  refine T.ret ?_
  refine TQ.rets [4, 5] _ rfl rfl rfl ?_
  exact ⟨rfl, rfl⟩
set_option maxHeartbeats 2000000 in
theorem Mul_fn (n : Nat) (hn : n ≤ 1000) :
    Rt Try.prog 70 [.int .u64 ((1 : Nat) : Int), .int .u64 (n : Int)].toArray S w0 η (fun v η' => v = .tuple #[.int .u64 0, .int .u64 (n : Int)] ∧ η' = η) := by
  have hF := open_wide
  refine Rt.of (fn := Try.f70) Try.func70 rfl rfl ?_
  refine T.seq ?_
  refine T.region ?_
  refine TL.assign hF rfl rfl ?_
  refine TL.assign hF rfl rfl ?_
  refine TL.nil ?_
  refine TQ.then_n ?_
  refine T.seq ?_
  refine T.cond_f rfl rfl ?_
  refine T.skip ?_
  refine TQ.then_n ?_
  refine T.seq ?_
  refine T.region ?_
  refine TL.move hF rfl rfl ?_
  refine TL.move hF rfl rfl ?_
  refine TL.callV hF (Mul64_fn n hn) rfl rfl ?_
  refine TL.move hF rfl rfl ?_
  refine TL.extract hF rfl rfl rfl ?_
  refine TL.extract hF rfl rfl rfl ?_
  refine TL.assign hF rfl rfl ?_
  refine TL.assign hF rfl rfl ?_
  refine TL.nil ?_
  refine TQ.then_n ?_
  refine T.seq ?_
  refine T.region ?_
  refine TL.move hF rfl rfl ?_
  refine TL.move hF rfl rfl ?_
  refine TL.assign hF rfl rfl ?_
  refine TL.assign hF rfl rfl ?_
  refine TL.nil ?_
  refine TQ.then_n ?_
  refine T.ret ?_
  refine TQ.rets [4, 5] _ rfl rfl rfl ?_
  exact ⟨rfl, rfl⟩
theorem _root_.Go.Sl.Row.pre {a : Option Addr} {cs : List Value} (h : Row S w0 η a cs) (k : Nat) : Row S w0 η a (cs.take k) :=
  ⟨fun hl => h.ad (by simp at hl; omega), fun i v hi => h.cell i v (by
    rw [List.getElem?_take] at hi; split at hi
    · exact hi
    · cases hi)⟩
theorem cutAt {b n k : Nat} (h : n ≠ k) : (if n = k then some (⟨b, 0, none⟩ : Addr) else (some (⟨b, 0, none⟩ : Addr)).map (·.add (k * 1))) = some ⟨b, k, none⟩ := by
  rw [if_neg h]; simp only [Option.map_some, Nat.mul_one]
  unfold Addr.add; split
  · rename_i h0; simp [h0]
  · simp
theorem cut0 {b n : Nat} : (if n = 0 then some (⟨b, 0, none⟩ : Addr) else (some (⟨b, 0, none⟩ : Addr)).map (·.add (0 * 1))) = some ⟨b, 0, none⟩ := by
  split <;> simp [Addr.add]
def stC (v : Int) (k i : Nat) : Int := if i < k then v else 0
theorem stC_grow {v : Int} {n k c : Nat} (hc : c ≤ k) (hn : k + c ≤ n) : (intC n (stC v k)).take k ++ (intC n (stC v k)).take c ++ (intC n (stC v k)).drop (k + c * 1) = intC n (stC v (k + c)) := by
  apply List.ext_getElem?
  intro i
  by_cases hi : i < n
  · rw [intC_get hi]
    rcases Nat.lt_or_ge i k with h1 | h1
    · rw [List.append_assoc, List.getElem?_append_left (by simp [intC_len]; omega), List.getElem?_take_of_lt h1, intC_get hi]
      simp [stC, h1, show i < k + c by omega]
    · rcases Nat.lt_or_ge i (k + c) with h2 | h2
      · rw [List.append_assoc, List.getElem?_append_right (by simp [intC_len]; omega), List.length_take, intC_len, Nat.min_eq_left (by omega), List.getElem?_append_left (by simp [intC_len]; omega), List.getElem?_take_of_lt (by omega), intC_get (by omega)]
        simp [stC, h2, show i - k < k by omega]
      · rw [List.getElem?_append_right (by simp [intC_len]; omega), List.getElem?_drop]
        have e : k + c * 1 + (i - (List.take k (intC n (stC v k)) ++ List.take c (intC n (stC v k))).length) = i := by simp [intC_len]; omega
        rw [e, intC_get hi]
        simp [stC, show ¬ i < k by omega, show ¬ i < k + c by omega]
  · have e1 : (intC n (stC v (k + c)))[i]? = none := List.getElem?_eq_none (by rw [intC_len]; omega)
    rw [e1]; apply List.getElem?_eq_none; simp [intC_len]; omega
theorem stC_one {v : Int} {n : Nat} (hn : 1 ≤ n) : (intC n fun _ => 0).take 0 ++ ints [v] ++ (intC n fun _ => 0).drop (0 + 1 * 1) = intC n (stC v 1) := by
  apply List.ext_getElem?
  intro i
  by_cases hi : i < n
  · rw [intC_get hi]
    cases i with
    | zero => simp [stC]
    | succ i => simp [stC]; exact intC_get hi
  · have e1 : (intC n (stC v 1))[i]? = none := List.getElem?_eq_none (by rw [intC_len]; omega)
    rw [e1]; apply List.getElem?_eq_none; simp [intC_len]; omega

set_option maxHeartbeats 2000000 in
theorem Repeat_fn {a : Option Addr} {c n : Nat} {v : Int} (hn : n ≤ 1000) (h1 : 1 ≤ n) (hx : Row S w0 η a (ints [v])) :
    Rt Try.prog 67 [.slice a 1 c, .int .i64 (n : Int)].toArray S w0 η (fun r η' => ∃ b, r = .slice (some ⟨b, 0, none⟩) n n ∧ η' = iseg b n (fun _ => v) :: η) := by
  have hF := open_wide
  refine Rt.of (fn := Try.f67) Try.func67 rfl rfl ?_
  refine T.seq ?_
  refine T.region ?_
  refine TL.assign hF rfl rfl ?_
  refine TL.nil ?_
  refine TQ.then_n ?_
  refine T.seq ?_
  refine T.seq ?_
  refine T.region ?_
  refine TL.move hF rfl rfl ?_
  refine TL.bin hF rfl rfl rfl rfl ?_
  refine TL.nil ?_
  refine TQ.then_n ?_
  refine T.cond_f rfl (by simp) ?_
  refine T.skip ?_
  refine TQ.then_n ?_
  refine T.seq ?_
  refine T.region ?_
  refine TL.move hF rfl rfl ?_
  refine TL.len hF rfl rfl ?_
  refine TL.convK hF (r := ((1 : Nat) : Int)) rfl (wrap_u64 (by omega) (by omega)) rfl ?_
  refine TL.move hF rfl rfl ?_
  refine TL.convK hF (r := (n : Int)) rfl (wrap_u64 (by omega) (by omega)) rfl ?_
  refine TL.callV hF (Mul_fn n hn) rfl rfl ?_
  refine TL.move hF rfl rfl ?_
  refine TL.extract hF rfl rfl rfl ?_
  refine TL.extract hF rfl rfl rfl ?_
  refine TL.assign hF rfl rfl ?_
  refine TL.assign hF rfl rfl ?_
  refine TL.nil ?_
  refine TQ.then_n ?_
  refine T.seq ?_
  refine T.seq ?_
  refine T.region ?_
  refine TL.move hF rfl rfl ?_
  refine TL.bin hF rfl rfl rfl rfl ?_
  refine TL.move hF rfl rfl ?_
  refine TL.on rfl rfl rfl (by simp) ?_
  refine TL.move hF rfl rfl ?_
  refine TL.on rfl rfl rfl (by simp) ?_
  refine TL.bin hF rfl rfl rfl rfl ?_
  refine TL.pickF hF rfl (by simp) rfl rfl ?_
  refine TL.nil ?_
  refine TQ.then_n ?_
  refine T.cond_f rfl (by first | (simp; done) | (simp; omega)) ?_
  refine T.skip ?_
  refine TQ.then_n ?_
  refine T.seq ?_
  refine T.region ?_
  refine TL.move hF rfl rfl ?_
  refine TL.convK hF (r := (n : Int)) rfl (wrap_i64 (by omega) (by omega)) rfl ?_
  refine TL.makeSlice hF (k := n) rfl rfl rfl (by omega) (by omega) rfl (fun b30 => ?_)
  refine TL.assign hF rfl rfl ?_
  refine TL.nil ?_
  refine TQ.then_n ?_
  refine T.seq ?_
  refine T.region ?_
  refine TL.move hF rfl rfl ?_
  refine TL.move hF rfl rfl ?_
  rw [intC_zero]
  refine TL.copy hF 0 (cs := intC n fun _ => 0) (e' := 3) (k := 1) (ints [v]) (intC n (stC v 1)) rfl rfl rfl (by omega) (hx.up upc) (by simp) (by simp [Value.oneCell']) (by rw [intC_len]; omega) (stC_one h1) rfl ?_
  refine TL.assign hF rfl rfl ?_
  refine TL.nil ?_
  refine TQ.then_n ?_
  refine T.seq ?_
  refine T.block ?_
  refine T.loop (ι := Nat) (fun k => 1 ≤ k ∧ k ≤ n) (fun k => [(7, .slice (some ⟨b30, 0, none⟩) n n), (8, .int .i64 (k : Int))]) (fun k => iseg b30 n (stC v k) :: η) (fun k => n - k) 1 ⟨Nat.le_refl _, h1⟩ ⟨rfl, rfl, trivial⟩ rfl ?_
  rintro k ⟨hk1, hk⟩
  refine T.seq ?_
  refine T.seq ?_
  refine T.region ?_
  refine TL.move hF rfl rfl ?_
  refine TL.move hF rfl rfl ?_
  refine TL.len hF rfl rfl ?_
  refine TL.bin hF rfl rfl rfl rfl ?_
  refine TL.nil ?_
  refine TQ.then_n ?_
  first | refine T.cond_d rfl (fun ht37 => ?_) (fun ht37 => ?_) | refine T.cond _ rfl (fun ht37 => ?_) (fun ht37 => ?_)
  · refine T.skip ?_
    refine TQ.then_n ?_
    refine T.block ?_
    have hkn : k < n := by have h : (k : Int) < n := ht37; omega
    refine T.drawH 8 mixed ?_
    refine DH.pure (i := 0) [(8, _, none)] rfl rfl rfl rfl ⟨⟨rfl, by kernel_rfl⟩, trivial⟩ (fun _ ext => TL.move hF rfl rfl TL.fin) ?_
    refine DH.pure (i := 1) [(7, _, none)] rfl rfl rfl rfl ⟨⟨rfl, by kernel_rfl⟩, trivial⟩ (fun _ ext => TL.move hF rfl rfl TL.fin) ?_
    refine DH.pure (i := 2) [(8, _, none)] rfl rfl rfl rfl ⟨⟨rfl, by kernel_rfl⟩, trivial⟩ (fun _ ext => TL.move hF rfl rfl TL.fin) ?_
    refine DH.pure (i := 3) [(39, _, some 1), (40, _, some 2)] rfl rfl rfl rfl ⟨⟨rfl, rfl, rfl⟩, ⟨rfl, rfl, rfl⟩, trivial⟩ (fun _ ext => (by
          refine TL.slice hF (i := k) (j := n) rfl rfl rfl (by omega) (by omega) rfl ?_
          rw [cutAt (show n ≠ k by omega)]
          exact TL.fin)) ?_
    refine DH.pure (i := 4) [(7, _, none)] rfl rfl rfl rfl ⟨⟨rfl, by kernel_rfl⟩, trivial⟩ (fun _ ext => TL.move hF rfl rfl TL.fin) ?_
    refine DH.pure (i := 5) [(8, _, none)] rfl rfl rfl rfl ⟨⟨rfl, by kernel_rfl⟩, trivial⟩ (fun _ ext => TL.move hF rfl rfl TL.fin) ?_
    refine DH.pure (i := 6) [(42, _, some 4), (43, _, some 5)] rfl rfl rfl rfl ⟨⟨rfl, rfl, rfl⟩, ⟨rfl, rfl, rfl⟩, trivial⟩ (fun _ ext => (by
          refine TL.slice hF (i := 0) (j := k) rfl rfl rfl (by omega) (by omega) rfl ?_
          rw [cut0]
          exact TL.fin)) ?_
    refine DH.heavy 7 [(41, _, some 3), (44, _, some 6)] (by kernel_rfl) (by kernel_rfl) (by kernel_rfl) (by kernel_rfl) rfl rfl rfl rfl ⟨⟨rfl, rfl, rfl⟩, ⟨rfl, rfl, rfl⟩, trivial⟩ (by kernel_rfl) (fun ext => ?_)
    refine TL.copy hF 0 (cs := intC n (stC v k)) (e' := 3) (k := min k (n - k)) ((intC n (stC v k)).take (min k (n - k))) (intC n (stC v (k + min k (n - k)))) rfl rfl rfl rfl ((row_own (e := 3) (by simp)).pre _) (by simp [intC_len] <;> omega) (by intro u hu; obtain ⟨j, _, rfl⟩ := List.mem_map.1 (List.mem_of_mem_take hu); rfl) (by rw [intC_len]; omega) (stC_grow (by omega) (by omega)) rfl ?_
    refine TL.finD ?_
    refine DH.done [(45, _), (44, _), (43, _), (42, _), (41, _), (40, _), (39, _), (38, _)] [_, _] (by kernel_rfl) (by kernel_rfl) (by kernel_rfl) (by kernel_rfl) rfl rfl ?_
    refine TL.add hF rfl rfl (by omega) (by omega) rfl ?_
    refine TL.assign hF rfl rfl ?_
    refine TL.nil ?_
    refine TQ.block_n ?_
    exact TQ.round (k + min k (n - k)) ⟨by omega, by omega⟩ (by omega) ⟨rfl, congrArg (fun z => some (Value.int .i64 z)) (by omega), trivial⟩ rfl
  · refine T.exit ?_
    refine TQ.then_x ?_
    refine TQ.then_x ?_
    refine TQ.block_x ?_
    refine TQ.then_n ?_
    refine T.seq ?_
    refine T.region ?_
    refine TL.move hF rfl rfl ?_
    refine TL.assign hF rfl rfl ?_
    refine TL.nil ?_
    refine TQ.then_n ?_
    refine T.ret ?_
    refine TQ.rets [4] _ rfl rfl rfl ?_
    have hkn : k = n := by have h : ¬ (k : Int) < n := ht37; omega
    subst hkn
    exact ⟨b30, rfl, iseg_congr (fun i hi => by simp [stC, hi])⟩
end Go.Proofs.Ytdehpaikapbckaa
/- Distances by a queue: plain Lean. -/
namespace Go.Proofs.Ytdehpaikapbckaa
def seenD (D : Nat → Int) (a : Nat) : Bool := decide (0 ≤ D a)
structure BF (E : Nat → Nat → Bool) (n t : Nat) (D : Nat → Int) (q : List Nat) : Prop where
  z : D t = 0
  lo : ∀ a, a < n → -1 ≤ D a
  zt : ∀ a, a < n → D a = 0 → a = t
  dn : ∀ a, a < n → 0 < D a → ∃ b, b < n ∧ E a b = true ∧ D b = D a - 1
  qs : ∀ x ∈ q, x < n ∧ 0 ≤ D x
  pr : ∀ b, b < n → 0 ≤ D b → b ∉ q → ∀ a, a < n → E a b = true → 0 ≤ D a ∧ D a ≤ D b + 1
  so : q.Pairwise fun x y => D x ≤ D y
  top : ∀ h, q.head? = some h → ∀ a, a < n → D a ≤ D h + 1
  bd : ∀ a, a < n → D a + 1 + (unm n (seenD D) : Int) ≤ n
  ql : q.length + unm n (seenD D) ≤ n
theorem unm_all (n : Nat) : unm n (fun _ => false) = n := by
  unfold unm
  have : (List.range n).filter (fun _ => !false) = List.range n := List.filter_eq_self.2 (by simp)
  rw [this]; simp
theorem unm_congr {n : Nat} {A B : Nat → Bool} (h : ∀ a, a < n → A a = B a) : unm n A = unm n B := by
  unfold unm
  rw [List.filter_congr]
  intro x hx; rw [h x (by simpa using hx)]
theorem BF.start {E : Nat → Nat → Bool} {n t : Nat} (ht : t < n) : BF E n t (fun a => if a = t then 0 else -1) [t] := by
  have hu : unm n (seenD fun a => if a = t then 0 else -1) < n := by
    have h1 := unm_mark (n := n) (A := fun _ => false) ht rfl
    rw [unm_all] at h1
    rw [unm_congr (B := markA (fun _ => false) t)]
    · exact h1
    · intro a _
      unfold seenD markA
      by_cases h : a = t <;> simp [h]
  refine ⟨by simp, fun a _ => ?_, fun a _ h => ?_, fun a _ h => ?_, fun x hx => ?_, fun b _ h1 h2 => ?_, List.pairwise_singleton _ _, fun h hh a _ => ?_, fun a _ => ?_, by simp only [List.length_singleton]; omega⟩
  · split <;> omega
  · split at h
    · assumption
    · omega
  · split at h <;> omega
  · have : x = t := by simpa using hx
    subst this; exact ⟨ht, by simp⟩
  · exfalso
    split at h1
    · subst_vars; simp at h2
    · omega
  · have : h = t := by simpa using hh.symm
    subst this; simp only [if_true]; split <;> omega
  · split <;> omega
theorem BF.pop {E : Nat → Nat → Bool} {n t h : Nat} {D : Nat → Int} {q : List Nat} (hb : BF E n t D (h :: q)) (hp : ∀ a, a < n → E a h = true → 0 ≤ D a) : BF E n t D q := by
  refine ⟨hb.z, hb.lo, hb.zt, hb.dn, fun x hx => hb.qs x (List.mem_cons_of_mem _ hx), fun b hbn h0 hnq a ha he => ?_, (List.pairwise_cons.1 hb.so).2, fun h' hh a ha => ?_, hb.bd, by have := hb.ql; simp only [List.length_cons] at this; omega⟩
  · by_cases e : b = h
    · subst e; exact ⟨hp a ha he, hb.top b rfl a ha⟩
    · exact hb.pr b hbn h0 (by simp [e, hnq]) a ha he
  · have h1 := hb.top h rfl a ha
    have hm : h' ∈ q := by
      cases q with
      | nil => simp at hh
      | cons x r => simp at hh; subst hh; simp
    have h2 := (List.pairwise_cons.1 hb.so).1 h' hm
    omega
def updD (D : Nat → Int) (r : Nat) (v : Int) (i : Nat) : Int := if i = r then v else D i
theorem BF.push {E : Nat → Nat → Bool} {n t h r : Nat} {D : Nat → Int} {q : List Nat} (hb : BF E n t D (h :: q)) (hr : r < n) (hD : D r < 0) (he : E r h = true) : BF E n t (updD D r (D h + 1)) (h :: (q ++ [r])) ∧ unm n (seenD (updD D r (D h + 1))) + 1 ≤ unm n (seenD D) := by
  have hh := hb.qs h List.mem_cons_self
  have hhr : h ≠ r := fun e => by subst e; omega
  have hsame : ∀ x, x ≠ r → updD D r (D h + 1) x = D x := fun x hx => by simp [updD, hx]
  have hnew : updD D r (D h + 1) r = D h + 1 := by simp [updD]
  have hu : unm n (seenD (updD D r (D h + 1))) + 1 ≤ unm n (seenD D) := by
    have h1 := unm_mark (n := n) (A := seenD D) hr (by simp [seenD]; omega)
    rw [unm_congr (B := markA (seenD D) r)]
    · omega
    · intro a _
      unfold seenD markA updD
      by_cases e : a = r
      · simp [e]; omega
      · simp [e]
  have hqr : r ∉ h :: q := fun hm => by have := (hb.qs r hm).2; omega
  refine ⟨⟨?_, fun a ha => ?_, fun a ha h0 => ?_, fun a ha h0 => ?_, fun x hx => ?_, fun b hbn h0 hnq a ha hE => ?_, ?_, fun h' hh' a ha => ?_, fun a ha => ?_, ?_⟩, hu⟩
  · rw [hsame t (fun e => by have := hb.z; rw [e] at this; omega)]; exact hb.z
  · by_cases e : a = r
    · subst e; rw [hnew]; omega
    · rw [hsame a e]; exact hb.lo a ha
  · by_cases e : a = r
    · subst e; rw [hnew] at h0; omega
    · rw [hsame a e] at h0; exact hb.zt a ha h0
  · by_cases e : a = r
    · subst e; exact ⟨h, hh.1, he, by rw [hnew, hsame h hhr]; omega⟩
    · rw [hsame a e] at h0 ⊢
      obtain ⟨b, h1, h2, h3⟩ := hb.dn a ha h0
      exact ⟨b, h1, h2, by rw [hsame b (fun e2 => by subst e2; omega)]; exact h3⟩
  · rcases List.mem_cons.1 hx with e | hx
    · subst e; rw [hsame x hhr]; exact hh
    · rcases List.mem_append.1 hx with hx | hx
      · have h1 := hb.qs x (List.mem_cons_of_mem _ hx)
        rw [hsame x (fun e => by subst e; omega)]; exact h1
      · have : x = r := by simpa using hx
        subst this; exact ⟨hr, by rw [hnew]; omega⟩
  · have hbr : b ≠ r := fun e => hnq (by rw [e]; simp)
    rw [hsame b hbr] at h0 ⊢
    have h1 := hb.pr b hbn h0 (fun hm => hnq (by
      rcases List.mem_cons.1 hm with e | hm
      · rw [e]; simp
      · simp [hm])) a ha hE
    by_cases e : a = r
    · subst e; omega
    · rw [hsame a e]; exact h1
  · have hpw := hb.so
    have hmap : ∀ x ∈ h :: q, updD D r (D h + 1) x = D x := fun x hx => hsame x (fun e => hqr (by rw [← e]; exact hx))
    have h1 : (h :: q).Pairwise fun x y => updD D r (D h + 1) x ≤ updD D r (D h + 1) y :=
      hpw.imp_of_mem fun hx hy hxy => by rw [hmap _ hx, hmap _ hy]; exact hxy
    rw [← List.cons_append, List.pairwise_append]
    refine ⟨h1, List.pairwise_singleton _ _, fun x hx y hy => ?_⟩
    have : y = r := by simpa using hy
    subst this
    rw [hnew, hmap x hx]
    exact hb.top h rfl x (hb.qs x hx).1
  · have : h' = h := by simpa using hh'.symm
    subst this
    rw [hsame h' hhr]
    by_cases e : a = r
    · subst e; rw [hnew]; omega
    · rw [hsame a e]; exact hb.top h' rfl a ha
  · by_cases e : a = r
    · subst e; rw [hnew]; have := hb.bd h hh.1; omega
    · rw [hsame a e]; have := hb.bd a ha; omega
  · have := hb.ql; simp only [List.length_cons, List.length_append, List.length_nil] at this ⊢; omega
theorem BF.dist {E : Nat → Nat → Bool} {n t : Nat} {D : Nat → Int} (h : BF E n t D []) : IsDist E n t D :=
  ⟨h.z, h.lo, h.zt, h.dn, fun a b ha hb he h0 => h.pr b hb h0 (by simp) a ha he⟩
end Go.Proofs.Ytdehpaikapbckaa
/- How far relations are from one, by the program. -/
namespace Go.Proofs.Ytdehpaikapbckaa
open Go.Sl
variable {S : Nat → Prop} {w0 : World} {η : Heap}
set_option maxHeartbeats 2000000 in
theorem far_prog {bw n t : Nat} {U : Int → Int → Bool → Bool} {m : List ((Int × Int) × Bool)} (hn : n ≤ 48) (hw : Web η bw n U m) (htn : t < n) :
    Rt Try.prog 58 [ptr bw, .int .i64 (t : Int)].toArray S w0 η (fun v η' => ∃ b, v = .slice (some ⟨b, 0, none⟩) n n ∧ η' = iseg b n (distS (EN U) n t) :: η) := by
  have hF := open_wide
  refine Rt.of (fn := Try.f58) Try.func58 rfl rfl ?_
  refine T.seq ?_
  refine T.region ?_
  refine TL.assign hF rfl rfl ?_
  refine TL.nil ?_
  refine TQ.then_n ?_
  refine T.seq ?_
  refine T.region ?_
  obtain ⟨bm, es, clock, hws, hwm, hwo⟩ := hw.ex
  refine TL.buildSlice hF rfl (cs := #[.int .i64 (-1)]) (e := 3) (fun w => by kernel_rfl) rfl (fun b8 => ?_)
  refine TL.move hF rfl rfl ?_
  refine TL.nilCheck hF rfl rfl ?_
  refine TL.fieldAddr hF rfl rfl ?_
  refine TL.load hF rfl (own_mem (upc _ hws) rfl) rfl ?_
  refine TL.call hF (Repeat_fn (n := n) (v := -1) (by omega) (by omega) (row_own (cs := [.int .i64 (-1)]) (e := 3) (by simp))) rfl rfl ?_
  rintro _ _ ⟨bo, rfl, rfl⟩
  refine TL.assign hF rfl rfl ?_
  refine TL.nil ?_
  refine TQ.then_n ?_
  refine T.seq ?_
  refine T.region ?_
  refine TL.move hF rfl rfl ?_
  refine TL.move hF rfl rfl ?_
  refine TL.indexAddr hF rfl rfl ⟨_, rfl, rfl⟩ (by omega) (by omega) rfl ?_
  refine TL.storeI hF 0 rfl rfl rfl rfl (by simp [intC_len]; omega) ?_
  refine TL.nil ?_
  refine TQ.then_n ?_
  refine T.seq ?_
  refine T.seq ?_
  refine T.region ?_
  refine TL.move hF rfl rfl ?_
  refine TL.buildSlice hF rfl (cs := #[.int .i64 (t : Int)]) (e := 3) (fun w => by kernel_rfl) rfl (fun b18 => ?_)
  refine TL.assign hF rfl rfl ?_
  refine TL.nil ?_
  refine TQ.then_n ?_
  refine T.block ?_
  refine T.hsub ([(b18, .cells #[.int .i64 (t : Int)] 3 (0, 0))] :: iseg bo n (fun a => if a = t then 0 else -1) :: η) (by
    have e : iseg bo n (fun a => if a = t then 0 else -1) = [(bo, Obj.cells ((intC n fun _ => -1).toArray.setIfInBounds (0 + (t : Int).toNat * 1) (.int .i64 0)) 3 (0, 0))] := by
      unfold iseg; rw [intC_set (g := fun a => if a = t then 0 else -1) (fun i hi => by simp)]
    rw [e]
    exact List.Sublist.cons_cons _ (List.Sublist.cons_cons _ (List.sublist_cons_self _ _))) ?_
  refine T.loop (ι := (Nat → Int) × List Nat × Option Addr × Nat × Seg) (fun i => BF (EN U) n t i.1 i.2.1 ∧ OSx 3 1 (.slice i.2.2.1 i.2.1.length i.2.2.2.1) i.2.1.length (nats i.2.1) i.2.2.2.2) (fun i => [(0, ptr bw), (5, .slice (some ⟨bo, 0, none⟩) n n), (6, .slice i.2.2.1 i.2.1.length i.2.2.2.1)]) (fun i => i.2.2.2.2 :: iseg bo n i.1 :: η) (fun i => unm n (seenD i.1) + i.2.1.length) ((fun a => if a = t then 0 else -1), [t], some ⟨b18, 0, none⟩, 1, [(b18, .cells #[.int .i64 (t : Int)] 3 (0, 0))]) ⟨BF.start htn, ⟨rfl, .inr ⟨b18, 0, 1, _, rfl, rfl, Nat.le_refl _, Nat.le_refl _, rfl⟩⟩⟩ ⟨rfl, rfl, rfl, trivial⟩ rfl ?_
  rintro ⟨D, q, qa, qc, qg⟩ ⟨hb, ho⟩
  simp only at hb ho
  refine T.seq ?_
  refine T.seq ?_
  refine T.region ?_
  refine TL.move hF rfl rfl ?_
  refine TL.len hF rfl rfl ?_
  refine TL.bin hF rfl rfl rfl rfl ?_
  refine TL.nil ?_
  refine TQ.then_n ?_
  first | refine T.cond_d rfl (fun ht21 => ?_) (fun ht21 => ?_) | refine T.cond _ rfl (fun ht21 => ?_) (fun ht21 => ?_)
  · refine T.skip ?_
    refine TQ.then_n ?_
    refine T.seq ?_
    refine T.block ?_
    refine T.seq ?_
    refine T.region ?_
    refine TL.move hF rfl rfl ?_
    refine TL.nilCheck hF rfl rfl ?_
    refine TL.fieldAddr hF rfl rfl ?_
    refine TL.load hF rfl (own_mem (upc _ (upc _ hws)) rfl) rfl ?_
    refine TL.move hF rfl rfl ?_
    refine TL.nil ?_
    refine TQ.then_n ?_
    refine T.block ?_
    obtain ⟨h, q', rfl⟩ : ∃ h q', q = h :: q' := by
      cases q with
      | nil => simp at ht21
      | cons h q' => exact ⟨h, q', rfl⟩
    refine T.loop (ι := Nat × (Nat → Int) × List Nat × Option Addr × Nat × Seg) (fun i => i.1 ≤ n ∧ BF (EN U) n t i.2.1 (h :: i.2.2.1) ∧ OSx 3 1 (.slice i.2.2.2.1 (h :: i.2.2.1).length i.2.2.2.2.1) (h :: i.2.2.1).length (nats (h :: i.2.2.1)) i.2.2.2.2.2 ∧ (∀ a, a < i.1 → EN U a h = true → 0 ≤ i.2.1 a) ∧ unm n (seenD i.2.1) + i.2.2.1.length ≤ unm n (seenD D) + q'.length) (fun i => [(0, ptr bw), (5, .slice (some ⟨bo, 0, none⟩) n n), (6, .slice i.2.2.2.1 (h :: i.2.2.1).length i.2.2.2.2.1), (27, .int .i64 (n : Int)), (28, .int .i64 (i.1 : Int))]) (fun i => i.2.2.2.2.2 :: iseg bo n i.2.1 :: η) (fun i => n - i.1) (0, D, q', qa, qc, qg) ⟨Nat.zero_le _, hb, ho, by omega, Nat.le_refl _⟩ ⟨rfl, rfl, rfl, rfl, rfl, trivial⟩ rfl ?_
    rintro ⟨k, D1, q1, qa1, qc1, qg1⟩ ⟨hk, hb1, ho1, hkk, hmu⟩
    simp only at hk hb1 ho1 hkk hmu
    have hhn := hb1.qs h List.mem_cons_self
    have hbd := hb1.bd h hhn.1
    have hql := hb1.ql
    simp only [List.length_cons] at hql
    have hrow : Row S w0 (qg1 :: iseg bo n D1 :: η) qa1 (nats (h :: q1)) := ho1.row List.mem_cons_self
    have hweb : Web (qg1 :: iseg bo n D1 :: η) bw n U m := hw.up (fun x hx => upc _ (upc _ hx))
    refine T.seq ?_
    refine T.region ?_
    refine TL.bin hF rfl rfl rfl rfl ?_
    refine TL.nil ?_
    refine TQ.then_n ?_
    refine T.seq ?_
    first | refine T.cond_d rfl (fun ht29 => ?_) (fun ht29 => ?_) | refine T.cond _ rfl (fun ht29 => ?_) (fun ht29 => ?_)
    · refine T.skip ?_
      refine TQ.then_n ?_
      refine T.seq ?_
      refine T.block ?_
      refine T.seq ?_
      refine T.region ?_
      refine TL.move hF rfl rfl ?_
      refine TL.assign hF rfl rfl ?_
      refine TL.nil ?_
      refine TQ.then_n ?_
      refine T.seq ?_
      refine T.region ?_
      refine TL.move hF rfl rfl ?_
      refine TL.move hF rfl rfl ?_
      refine TL.indexAddr hF rfl rfl ⟨_, rfl, rfl⟩ (by omega) (by omega) rfl ?_
      refine TL.load hF rfl (iseg_at (f := D1) (n := n) (b := bo) (j := k) (upc _ List.mem_cons_self) (by omega)) rfl ?_
      refine TL.bin hF rfl rfl rfl rfl ?_
      refine TL.move hF rfl rfl ?_
      refine TL.gd (t := 36) rfl (fun g9_36 => ?_) (fun g9_36 => ?_)
      · refine TL.on rfl rfl rfl (decide_eq_true g9_36) ?_
        refine TL.move hF rfl rfl ?_
        refine TL.on rfl rfl rfl (decide_eq_true g9_36) ?_
        refine TL.move hF rfl rfl ?_
        refine TL.on rfl rfl rfl (decide_eq_true g9_36) ?_
        refine TL.move hF rfl rfl ?_
        refine TL.on rfl rfl rfl (decide_eq_true g9_36) ?_
        refine TL.indexAddr hF rfl rfl (hrow.nad (i := 0) (by simp)) (by omega) (by simp) rfl ?_
        refine TL.on rfl rfl rfl (decide_eq_true g9_36) ?_
        refine TL.load hF rfl (hrow.nat (i := 0) (by simp)) rfl ?_
        refine TL.on rfl rfl rfl (decide_eq_true g9_36) ?_
        refine TL.build hF rfl (r := KU (k, h)) (fun w => by kernel_rfl) rfl ?_
        refine TL.on rfl rfl rfl (decide_eq_true g9_36) ?_
        refine TL.callV hF (any_fn hweb k h) rfl rfl ?_
        refine TL.pickT hF rfl (decide_eq_true g9_36) rfl rfl ?_
        refine TL.nil ?_
        refine TQ.then_n ?_
        refine T.cond _ rfl (fun ht44 => ?_) (fun ht44 => ?_)
        · refine T.seq ?_
          refine T.region ?_
          refine TL.move hF rfl rfl ?_
          refine TL.move hF rfl rfl ?_
          refine TL.move hF rfl rfl ?_
          refine TL.move hF rfl rfl ?_
          refine TL.indexAddr hF rfl rfl (hrow.nad (i := 0) (by simp)) (by omega) (by simp) rfl ?_
          refine TL.load hF rfl (hrow.nat (i := 0) (by simp)) rfl ?_
          refine TL.indexAddr hF rfl rfl ⟨_, rfl, rfl⟩ (by simp) (by simp; omega) rfl ?_
          refine TL.load hF rfl (iseg_at (f := D1) (n := n) (b := bo) (j := h) (upc _ List.mem_cons_self) (by omega)) rfl ?_
          refine TL.add hF rfl rfl (by omega) (by omega) rfl ?_
          refine TL.indexAddr hF rfl rfl ⟨_, rfl, rfl⟩ (by omega) (by omega) rfl ?_
          refine TL.storeI hF 1 rfl rfl rfl rfl (by simp [intC_len]; omega) ?_
          refine TL.nil ?_
          refine TQ.then_n ?_
          refine T.region ?_
          refine TL.move hF rfl rfl ?_
          refine TL.move hF rfl rfl ?_
          refine TL.buildSlice hF rfl (cs := #[.int .i64 (k : Int)]) (e := 3) (fun w => by kernel_rfl) rfl (fun b57 => ?_)
          refine TL.appendX hF 1 rfl rfl rfl ho1 (row_own (cs := [.int .i64 (k : Int)]) (e := 3) (by simp)).src rfl rfl (by simp [Value.oneCell']) (by simp only [List.length_cons]; omega) (by simp only [List.length_cons]; omega) rfl (fun a' cap' seg' ho' => ?_)
          refine TL.assign hF rfl rfl ?_
          refine TL.nil ?_
          refine TQ.block_n ?_
          refine TQ.then_n ?_
          refine T.region ?_
          refine TL.add hF rfl rfl (by omega) (by omega) rfl ?_
          refine TL.move hF rfl rfl ?_
          refine TL.nil ?_
          have hpush := hb1.push (r := k) (by omega) (show D1 k < 0 from g9_36) ht44
          have e1 : (h :: (q1 ++ [k])).length = (h :: q1).length + 1 := by simp
          refine TQ.pop ?_
          refine TQ.round (k + 1, updD D1 k (D1 h + 1), q1 ++ [k], a', cap', seg') ⟨by simp only; omega, hpush.1, by simpa using ho', fun a ha he => ?_, ?_⟩ (by simp only; omega) ⟨rfl, rfl, congrArg (fun z => some (Value.slice a' z cap')) e1.symm, rfl, rfl, trivial⟩ (congrArg (fun z : Heap => seg' :: z) (iseg_set (j := k) (by simp) (fun i hi => by simp [updD])))
          · show 0 ≤ updD D1 k (D1 h + 1) a
            unfold updD
            by_cases e : a = k
            · rw [if_pos e]; omega
            · rw [if_neg e]; exact hkk a (by simp only at ha; omega) he
          · have h2 := hpush.2; simp only [List.length_append, List.length_singleton]; omega
        · refine T.skip ?_
          refine TQ.block_n ?_
          refine TQ.then_n ?_
          refine T.region ?_
          refine TL.add hF rfl rfl (by omega) (by omega) rfl ?_
          refine TL.move hF rfl rfl ?_
          refine TL.nil ?_
          refine TQ.round (k + 1, D1, q1, qa1, qc1, qg1) ⟨by simp only; omega, hb1, ho1, fun a ha he => ?_, hmu⟩ (by simp only; omega) ⟨rfl, rfl, rfl, rfl, rfl, trivial⟩ rfl
          by_cases e : a = k
          · subst e; first | (exfalso; rw [show U a h false = true from he] at ht44; cases ht44) | (have h : ¬ D1 a < 0 := g9_36; show 0 ≤ D1 a; omega)
          · exact hkk a (by simp only at ha; omega) he
      · refine TL.off hF rfl rfl rfl (decide_eq_false g9_36) rfl ?_
        refine TL.off hF rfl rfl rfl (decide_eq_false g9_36) rfl ?_
        refine TL.off hF rfl rfl rfl (decide_eq_false g9_36) rfl ?_
        refine TL.off hF rfl rfl rfl (decide_eq_false g9_36) rfl ?_
        refine TL.off hF rfl rfl rfl (decide_eq_false g9_36) rfl ?_
        refine TL.off hF rfl rfl rfl (decide_eq_false g9_36) rfl ?_
        refine TL.off hF rfl rfl rfl (decide_eq_false g9_36) rfl ?_
        refine TL.pickF hF rfl (decide_eq_false g9_36) rfl rfl ?_
        refine TL.nil ?_
        refine TQ.then_n ?_
        refine T.cond_f rfl rfl ?_
        refine T.skip ?_
        refine TQ.block_n ?_
        refine TQ.then_n ?_
        refine T.region ?_
        refine TL.add hF rfl rfl (by omega) (by omega) rfl ?_
        refine TL.move hF rfl rfl ?_
        refine TL.nil ?_
        refine TQ.round (k + 1, D1, q1, qa1, qc1, qg1) ⟨by simp only; omega, hb1, ho1, fun a ha he => ?_, hmu⟩ (by simp only; omega) ⟨rfl, rfl, rfl, rfl, rfl, trivial⟩ rfl
        by_cases e : a = k
        · subst e; first | (exfalso; rw [show U a h false = true from he] at ht44; cases ht44) | (have h : ¬ D1 a < 0 := g9_36; show 0 ≤ D1 a; omega)
        · exact hkk a (by simp only at ha; omega) he
    · refine T.exit ?_
      refine TQ.then_x ?_
      refine TQ.then_x ?_
      refine TQ.block_x ?_
      refine TQ.block_n ?_
      refine TQ.then_n ?_
      refine T.region ?_
      refine TL.move hF rfl rfl ?_
      refine TL.slice hF (i := 1) (j := (h :: q1).length) rfl rfl rfl (by simp) (by have h2 := ho1.2; rcases h2 with ⟨h2, _⟩ | ⟨_, _, _, _, h2, _, h3, _⟩ <;> first | (cases h2; exact h3) | cases h2) rfl ?_
      refine TL.assign hF rfl rfl ?_
      refine TL.nil ?_
      have hkn : k = n := by have h : ¬ (k : Int) < n := ht29; omega
      subst hkn
      have hp := hb1.pop hkk
      have e1 : (h :: q1).length - 1 = q1.length := by simp
      have hc := ho1.cut (k := 1) (by simp)
      refine TQ.round (D1, q1, _, _, qg1) ⟨hp, ?_⟩ (by simp only [List.length_cons]; omega) ⟨rfl, rfl, congrArg (fun z => some (Value.slice _ z _)) e1, trivial⟩ rfl
      rw [e1] at hc
      exact hc
  · refine T.exit ?_
    refine TQ.then_x ?_
    refine TQ.then_x ?_
    refine TQ.block_x ?_
    refine TQ.then_n ?_
    refine T.seq ?_
    refine T.region ?_
    refine TL.move hF rfl rfl ?_
    refine TL.assign hF rfl rfl ?_
    refine TL.nil ?_
    refine TQ.then_n ?_
    refine T.ret ?_
    have hq : q = [] := by
      cases q with
      | nil => rfl
      | cons x r => exfalso; simp at ht21
    subst hq
    refine TQ.pop ?_
    refine TQ.rets [4] _ rfl rfl rfl ?_
    exact ⟨bo, rfl, iseg_congr (fun i hi => (IsDist.eq htn hb.dist (distS_is htn) hi))⟩
end Go.Proofs.Ytdehpaikapbckaa
/- A shortest cycle that begins with a denial, by the program. -/
namespace Go.Proofs.Ytdehpaikapbckaa
open Go.Sl
variable {S : Nat → Prop} {w0 : World} {η : Heap}
theorem take_sorted {l : List Nat} (hs : l.Pairwise (· < ·)) : ∀ {i x : Nat} (hi : i < l.length), x ∈ l → x < l[i] → x ∈ l.take i := by
  induction l with
  | nil => intro i x hi; simp at hi
  | cons y r ih =>
    intro i x hi hx hlt
    obtain ⟨h1, h2⟩ := List.pairwise_cons.1 hs
    cases i with
    | zero =>
      simp only [List.getElem_cons_zero] at hlt
      rcases List.mem_cons.1 hx with e | hx
      · omega
      · have := h1 x hx; omega
    | succ i =>
      simp only [List.getElem_cons_succ] at hlt
      rw [List.take_succ_cons]
      rcases List.mem_cons.1 hx with e | hx
      · rw [e]; exact List.mem_cons_self
      · exact List.mem_cons_of_mem _ (ih h2 (by simpa using hi) hx hlt)
theorem succs_sorted (U : Int → Int → Bool → Bool) (n r : Nat) : (succs U n r).Pairwise (· < ·) := List.pairwise_lt_range.sublist List.filter_sublist
/-- A cycle by a denial, or nothing. -/
def roundS (E : Nat → Nat → Bool) (n a b : Nat) : List Nat := if 0 ≤ distS E n a b then candS E n a b else []
structure RSt where
  r : Nat
  k : Nat
  l : List Nat
  la : Option Addr
  lc : Nat
  lg : Seg
  br : Nat
  ms : List Nat

set_option maxHeartbeats 2000000 in
theorem round_fn {bw n p q : Nat} {U : Int → Int → Bool → Bool} {m : List ((Int × Int) × Bool)} (hn : n ≤ 48) (hw : Web η bw n U m) (hp : p < n) (hq : q < n) :
    Rt Try.prog 34 [ptr bw, KU ((p : Int), (q : Int))].toArray S w0 η (fun v η' => ∃ a cap seg, v = .slice a (roundS (EN U) n p q).length cap ∧ η' = seg :: η ∧ OSl 3 1 (.slice a (roundS (EN U) n p q).length cap) (roundS (EN U) n p q).length (nats (roundS (EN U) n p q)) seg) := by
  have hF := open_wide
  refine Rt.ofL (fn := Try.f34) Try.func34 rfl rfl ?_
  refine T.seq ?_
  refine T.region ?_
  refine TL.box hF rfl rfl (fun b3 => ?_)
  refine TL.assign hF rfl rfl ?_
  refine TL.nil ?_
  refine TQ.then_n ?_
  refine T.seq ?_
  refine T.seq ?_
  refine T.region ?_
  refine TL.fieldAddr hF rfl rfl ?_
  refine TL.load hF rfl (own_list (i := 0) (cs := [.int .i64 (p : Int), .int .i64 (q : Int)]) rfl 0 _ rfl) rfl ?_
  refine TL.fieldAddr hF rfl rfl ?_
  refine TL.load hF rfl (own_list (i := 0) (cs := [.int .i64 (p : Int), .int .i64 (q : Int)]) rfl 1 _ rfl) rfl ?_
  refine TL.bin hF rfl rfl rfl rfl ?_
  refine TL.nil ?_
  refine TQ.then_n ?_
  first | refine T.cond_d rfl (fun ht13 => ?_) (fun ht13 => ?_) | refine T.cond _ rfl (fun ht13 => ?_) (fun ht13 => ?_)
  · refine T.seq ?_
    refine T.region ?_
    refine TL.fieldAddr hF rfl rfl ?_
    refine TL.load hF rfl (own_list (i := 0) (cs := [.int .i64 (p : Int), .int .i64 (q : Int)]) rfl 0 _ rfl) rfl ?_
    refine TL.buildSlice hF rfl (cs := #[.int .i64 (p : Int)]) (e := 3) (fun w => by kernel_rfl) rfl (fun b16 => ?_)
    refine TL.assign hF rfl rfl ?_
    refine TL.nil ?_
    refine TQ.then_n ?_
    refine T.ret ?_
    refine TQ.then_r ?_
    refine TQ.hsub ([(b16, .cells #[.int .i64 (p : Int)] 3 (0, 0))] :: η) (List.Sublist.cons_cons _ (List.sublist_cons_self _ _)) ?_
    refine TQ.retL0 [4] _ rfl rfl rfl ?_
    have e : p = q := by have h : (p : Int) = q := ht13; omega
    subst e
    have hr : roundS (EN U) n p p = [p] := by unfold roundS; rw [(distS_is hp).z]; simp [candS, (distS_is hp).z, wayS]
    rw [hr]
    exact ⟨_, _, _, rfl, rfl, rfl, .inr ⟨b16, 1, _, rfl, rfl, Nat.le_refl _, rfl, rfl⟩⟩
  · refine T.skip ?_
    refine TQ.then_n ?_
    refine T.seq ?_
    refine T.region ?_
    refine TL.move hF rfl rfl ?_
    refine TL.fieldAddr hF rfl rfl ?_
    refine TL.load hF rfl (own_list (i := 0) (cs := [.int .i64 (p : Int), .int .i64 (q : Int)]) rfl 0 _ rfl) rfl ?_
    refine TL.call hF (far_prog hn (hw.up upc) hp) rfl rfl ?_
    rintro _ _ ⟨bf, rfl, rfl⟩
    refine TL.alloc hF rfl (fun b5 => ?_)
    first | refine TL.storeI hF 0 rfl rfl rfl rfl (by first | decide | simp) ?_ | refine TL.storeI hF 1 rfl rfl rfl rfl (by first | decide | simp) ?_ | refine TL.storeI hF 2 rfl rfl rfl rfl (by first | decide | simp) ?_ | refine TL.storeI hF 3 rfl rfl rfl rfl (by first | decide | simp) ?_
    refine TL.nil ?_
    refine TQ.then_n ?_
    refine T.seq ?_
    refine T.seq ?_
    refine T.region ?_
    refine TL.load hF rfl (by first | exact At.own' (i := 0) rfl rfl | exact At.own' (i := 1) rfl rfl | exact At.own' (i := 2) rfl rfl | exact At.own' (i := 3) rfl rfl | exact At.own' (i := 4) rfl rfl) rfl ?_
    refine TL.fieldAddr hF rfl rfl ?_
    refine TL.load hF rfl (own_list (i := 2) (cs := [.int .i64 (p : Int), .int .i64 (q : Int)]) rfl 1 _ rfl) rfl ?_
    refine TL.indexAddr hF rfl rfl ⟨_, rfl, rfl⟩ (by omega) (by omega) rfl ?_
    refine TL.load hF rfl (iseg_at (f := distS (EN U) n p) (n := n) (b := bf) (j := q) (upc _ List.mem_cons_self) (by omega)) rfl ?_
    refine TL.bin hF rfl rfl rfl rfl ?_
    refine TL.nil ?_
    refine TQ.then_n ?_
    first | refine T.cond_d rfl (fun ht26 => ?_) (fun ht26 => ?_) | refine T.cond _ rfl (fun ht26 => ?_) (fun ht26 => ?_)
    · refine T.seq ?_
      refine T.region ?_
      refine TL.assign hF rfl rfl ?_
      refine TL.nil ?_
      refine TQ.then_n ?_
      refine T.ret ?_
      refine TQ.then_r ?_
      have hr : roundS (EN U) n p q = [] := by unfold roundS; rw [if_neg (by have h : distS (EN U) n p q < 0 := ht26; omega)]
      refine TQ.hsub η (List.Sublist.cons _ (List.Sublist.cons _ (List.sublist_cons_self _ _))) ?_
      refine TQ.hnil ?_
      refine TQ.retL0 [4] _ rfl rfl rfl ?_
      rw [hr]
      exact ⟨none, 0, [], rfl, rfl, OSl.nil 3 1⟩
    · refine T.skip ?_
      refine TQ.then_n ?_
      refine T.seq ?_
      refine T.region ?_
      refine TL.fieldAddr hF rfl rfl ?_
      refine TL.load hF rfl (own_list (i := 2) (cs := [.int .i64 (p : Int), .int .i64 (q : Int)]) rfl 0 _ rfl) rfl ?_
      refine TL.buildSlice hF rfl (cs := #[.int .i64 (p : Int)]) (e := 3) (fun w => by kernel_rfl) rfl (fun b29 => ?_)
      refine TL.assign hF rfl rfl ?_
      refine TL.nil ?_
      refine TQ.then_n ?_
      refine T.seq ?_
      refine T.seq ?_
      refine T.region ?_
      refine TL.fieldAddr hF rfl rfl ?_
      refine TL.load hF rfl (own_list (i := 3) (cs := [.int .i64 (p : Int), .int .i64 (q : Int)]) rfl 1 _ rfl) rfl ?_
      refine TL.alloc hF rfl (fun b7 => ?_)
      first | refine TL.storeI hF 0 rfl rfl rfl rfl (by first | decide | simp) ?_ | refine TL.storeI hF 1 rfl rfl rfl rfl (by first | decide | simp) ?_ | refine TL.storeI hF 2 rfl rfl rfl rfl (by first | decide | simp) ?_ | refine TL.storeI hF 3 rfl rfl rfl rfl (by first | decide | simp) ?_
      refine TL.nil ?_
      refine TQ.then_n ?_
      refine T.block ?_
      have hD := distS_is (E := EN U) hp
      have hDlt : ∀ a, a < n → distS (EN U) n p a < n := fun a ha => levS_lt ha
      have hpq : p ≠ q := by have h := ht13; omega
      have hd0 : 0 ≤ distS (EN U) n p q := by have h : ¬ distS (EN U) n p q < 0 := ht26; omega
      have hlo : ∀ a, a < n → -1 ≤ distS (EN U) n p a := hD.lo
      refine T.hperm ([(b29, .cells #[.int .i64 (p : Int)] 3 (0, 0))] :: [(b7, .cells #[.int .i64 ((q : Nat) : Int)] 3 (0, 0))] :: [(b5, .cells #[.slice (some ⟨bf, 0, none⟩) n n] 23 (0, 0))] :: iseg bf n (distS (EN U) n p) :: [(b3, .cells #[.int .i64 (p : Int), .int .i64 (q : Int)] 76 (0, 0))] :: (marksH [] ++ η)) (List.Perm.swap _ _ _) ?_
      refine T.loopD (ι := RSt) (fun s => s.r < n ∧ distS (EN U) n p s.r = s.k ∧ s.l.length + s.k ≤ n ∧ candS (EN U) n p q = s.l ++ wayS (EN U) n (distS (EN U) n p) s.k s.r ∧ OSl 3 1 (.slice s.la s.l.length s.lc) s.l.length (nats s.l) s.lg) (fun s => [(0, ptr bw), (3, ptr b3), (5, ptr b5), (6, .slice s.la s.l.length s.lc), (7, ptr s.br)]) (fun s => s.lg :: [(s.br, .cells #[.int .i64 ((s.r : Nat) : Int)] 3 (0, 0))] :: [(b5, .cells #[.slice (some ⟨bf, 0, none⟩) n n] 23 (0, 0))] :: iseg bf n (distS (EN U) n p) :: [(b3, .cells #[.int .i64 (p : Int), .int .i64 (q : Int)] 76 (0, 0))] :: (marksH s.ms ++ η)) (fun s => marksOf s.ms ++ []) (fun s => s.k) ⟨q, (distS (EN U) n p q).toNat, [p], some ⟨b29, 0, none⟩, 1, [(b29, .cells #[.int .i64 (p : Int)] 3 (0, 0))], b7, []⟩ ⟨hq, by simp only; omega, by have := hDlt q hq; simp only [List.length_singleton]; omega, rfl, ⟨rfl, .inr ⟨b29, 1, _, rfl, rfl, Nat.le_refl _, rfl, rfl⟩⟩⟩ ⟨rfl, rfl, rfl, rfl, rfl, trivial⟩ rfl rfl ?_
      rintro s ⟨hr, hdk, hlk, hcand, ho⟩
      refine T.seq ?_
      refine T.seq ?_
      refine T.region ?_
      refine TL.load hF rfl (At.own' (i := 1) rfl rfl) rfl ?_
      refine TL.fieldAddr hF rfl rfl ?_
      refine TL.load hF rfl (own_list (i := 4) (cs := [.int .i64 (p : Int), .int .i64 (q : Int)]) rfl 0 _ rfl) rfl ?_
      refine TL.bin hF rfl rfl rfl rfl ?_
      refine TL.nil ?_
      refine TQ.then_n ?_
      first | refine T.cond_d rfl (fun ht35 => ?_) (fun ht35 => ?_) | refine T.cond _ rfl (fun ht35 => ?_) (fun ht35 => ?_)
      · refine T.skip ?_
        refine TQ.then_n ?_
        refine T.seq ?_
        refine T.block ?_
        refine T.seq ?_
        refine T.region ?_
        refine TL.move hF rfl rfl ?_
        refine TL.load hF rfl (At.own' (i := 1) rfl rfl) rfl ?_
        refine TL.buildSlice hF rfl (cs := #[.int .i64 (s.r : Int)]) (e := 3) (fun w => by kernel_rfl) rfl (fun b38 => ?_)
        refine TL.append hF 1 rfl rfl rfl ho (row_own (cs := [.int .i64 (s.r : Int)]) (e := 3) (by simp)).src rfl rfl (by simp [Value.oneCell']) (by omega) (by omega) rfl (fun a' cap' seg' ho' => ?_)
        refine TL.assign hF rfl rfl ?_
        refine TL.nil ?_
        refine TQ.then_n ?_
        refine T.seq ?_
        have hkpos : 0 < s.k := by
          rcases Nat.eq_zero_or_pos s.k with h | h
          · have h2 := hD.zt s.r hr (by rw [hdk, h]; rfl)
            have h3 : (s.r : Int) ≠ p := ht35
            omega
          · exact h
        obtain ⟨k', hk'⟩ : ∃ k', s.k = k' + 1 := ⟨s.k - 1, by omega⟩
        refine T.hsub (seg' :: [(s.br, .cells #[.int .i64 ((s.r : Nat) : Int)] 3 (0, 0))] :: [(b5, .cells #[.slice (some ⟨bf, 0, none⟩) n n] 23 (0, 0))] :: iseg bf n (distS (EN U) n p) :: [(b3, .cells #[.int .i64 (p : Int), .int .i64 (q : Int)] 76 (0, 0))] :: (marksH s.ms ++ η)) (List.sublist_cons_self _ _) ?_
        refine T.draw ?_
        refine DR.stepV [_] rfl [(0, _, none)] rfl rfl ⟨⟨rfl, by kernel_rfl⟩, trivial⟩ (fun ext => TL.move hF rfl rfl TL.fin) ?_
        refine DR.stepV [_, _] rfl [(7, _, none)] rfl rfl ⟨⟨rfl, by kernel_rfl⟩, trivial⟩ (fun ext => TL.load hF rfl (At.own' (i := 1) rfl rfl) rfl TL.fin) ?_
        refine DR.stepV [_, _, _] rfl [] rfl rfl trivial (fun ext => TL.callV hF (all_fn) rfl rfl TL.fin) ?_
        refine DR.stepV [_, _, _, _] rfl [(42, _, some 2)] rfl rfl ⟨⟨rfl, rfl, rfl⟩, trivial⟩ (fun ext => TL.indexR hF rfl rfl (r := .agg #[fnV 60]) (fun w => by kernel_rfl) rfl TL.fin) ?_
        refine DR.done [(43, _), (42, _), (41, _), (40, _)] [_] mixed (by kernel_rfl) (by kernel_rfl) (by kernel_rfl) rfl rfl ?_
        refine TL.call hF (from_fn (ptr bw) rfl s.r 60) rfl rfl ?_
        rintro _ _ ⟨c3, c4, c5, rfl, rfl⟩
        refine TL.nil ?_
        refine TQ.then_n ?_
        refine T.block ?_
        refine T.rangeFunc (fst := []) (cap := [ptr c3, ptr c5, ptr c4]) rfl (from_iter (S := S) (w0 := w0) (b3 := c3) (b4 := c4) (b5 := c5) (bw := bw) (r := s.r) (g := 60) (n := n) (U := U) (m := m) (by omega) (kind_any U)) (by
            intro e he; obtain ⟨x, _, rfl⟩ := List.mem_map.1 he; rfl) (by simp) (fun i η1 => η1 = [(c5, .cells #[fnV 60] 72 (0, 0))] :: [(c4, .cells #[.int .i64 (s.r : Int)] 3 (0, 0))] :: [(c3, .cells #[ptr bw] 59 (0, 0))] :: seg' :: [(s.br, .cells #[.int .i64 ((s.r : Nat) : Int)] 3 (0, 0))] :: [(b5, .cells #[.slice (some ⟨bf, 0, none⟩) n n] 23 (0, 0))] :: iseg bf n (distS (EN U) n p) :: [(b3, .cells #[.int .i64 (p : Int), .int .i64 (q : Int)] 76 (0, 0))] :: (marksH s.ms ++ η) ∧ ∀ x ∈ (succs U n s.r).take i, distS (EN U) n p x ≠ distS (EN U) n p s.r - 1) (fun c η1 => c = .exit 2 ∧ η1 = [(c5, .cells #[fnV 60] 72 (0, 0))] :: [(c4, .cells #[.int .i64 (s.r : Int)] 3 (0, 0))] :: [(c3, .cells #[ptr bw] 59 (0, 0))] :: seg' :: [(s.br, .cells #[.int .i64 ((nextS (EN U) n (distS (EN U) n p) s.r : Nat) : Int)] 3 (0, 0))] :: [(b5, .cells #[.slice (some ⟨bf, 0, none⟩) n n] 23 (0, 0))] :: iseg bf n (distS (EN U) n p) :: [(b3, .cells #[.int .i64 (p : Int), .int .i64 (q : Int)] 76 (0, 0))] :: (marksH s.ms ++ η) ∧ nextS (EN U) n (distS (EN U) n p) s.r < n ∧ distS (EN U) n p (nextS (EN U) n (distS (EN U) n p) s.r) = distS (EN U) n p s.r - 1) ⟨rfl, by simp⟩ ?_ ?_ ?_ ?_
        · rintro i _ tl ⟨rfl, _⟩
          exact ⟨by simp, by simp, by simp, hw.up (fun x hx => by simp [hx])⟩
        · rintro l tl tl' i e _ hie ⟨rfl, hno⟩
          have hF := open_round l
          have hil : i < (succs U n s.r).length := by have := (List.getElem?_eq_some_iff.1 hie).1; simpa [succs] using this
          have hee : e = [.int .i64 (((succs U n s.r)[i] : Nat) : Int)] := by
            have := (List.getElem?_eq_some_iff.1 hie).2; rw [← this]; simp [succs]
          subst hee
          have hxm : (succs U n s.r)[i] ∈ succs U n s.r := List.getElem_mem _
          generalize hxv : (succs U n s.r)[i] = x at hxm ⊢
          have hx2 : x < n ∧ U s.r x false = true := by simpa [succs] using hxm
          have hbd1 := hlo x hx2.1
          have hbd2 := hDlt x hx2.1
          refine T.region ?_
          refine TL.assign hF rfl rfl ?_
          refine TL.nil ?_
          refine TQ.swapT _ rfl ?_
          refine T.block ?_
          refine T.seq ?_
          refine T.draw ?_
          refine DR.stepV [_] rfl [(5, _, none)] rfl rfl ⟨⟨rfl, by kernel_rfl⟩, trivial⟩ (fun ext => TL.load hF rfl (At.own' (i := 5) rfl rfl) rfl TL.fin) ?_
          refine DR.stepV [_, _] rfl [(8, _, none)] rfl rfl ⟨⟨rfl, by kernel_rfl⟩, trivial⟩ (fun ext => TL.move hF rfl rfl TL.fin) ?_
          refine DR.stepV [_, _, _] rfl [(46, _, some 0), (47, _, some 1)] rfl rfl ⟨⟨rfl, rfl, rfl⟩, ⟨rfl, rfl, rfl⟩, trivial⟩ (fun ext => TL.indexAddr hF rfl rfl ⟨_, rfl, rfl⟩ (by omega) (by omega) rfl TL.fin) ?_
          refine DR.stepV [_, _, _, _] rfl [(48, _, some 2)] rfl rfl ⟨⟨rfl, rfl, rfl⟩, trivial⟩ (fun ext => TL.load hF rfl (iseg_at (f := distS (EN U) n p) (n := n) (b := bf) (j := x) (by simp) (by omega)) rfl TL.fin) ?_
          refine DR.stepV [_, _, _, _, _] rfl [(5, _, none)] rfl rfl ⟨⟨rfl, by kernel_rfl⟩, trivial⟩ (fun ext => TL.load hF rfl (At.own' (i := 5) rfl rfl) rfl TL.fin) ?_
          refine DR.stepV [_, _, _, _, _, _] rfl [(7, _, none)] rfl rfl ⟨⟨rfl, by kernel_rfl⟩, trivial⟩ (fun ext => TL.load hF rfl (At.own' (i := 4) rfl rfl) rfl TL.fin) ?_
          refine DR.stepV [_, _, _, _, _, _, _] rfl [(50, _, some 4), (51, _, some 5)] rfl rfl ⟨⟨rfl, rfl, rfl⟩, ⟨rfl, rfl, rfl⟩, trivial⟩ (fun ext => TL.indexAddr hF rfl rfl ⟨_, rfl, rfl⟩ (by omega) (by omega) rfl TL.fin) ?_
          refine DR.stepV [_, _, _, _, _, _, _, _] rfl [(52, _, some 6)] rfl rfl ⟨⟨rfl, rfl, rfl⟩, trivial⟩ (fun ext => TL.load hF rfl (iseg_at (f := distS (EN U) n p) (n := n) (b := bf) (j := s.r) (by simp) (by omega)) rfl TL.fin) ?_
          refine DR.stepV [_, _, _, _, _, _, _, _, _] rfl [(53, _, some 7)] rfl rfl ⟨⟨rfl, rfl, rfl⟩, trivial⟩ (fun ext => TL.sub hF rfl rfl (by omega) (by omega) rfl TL.fin) ?_
          refine DR.done [(54, _), (53, _), (52, _), (51, _), (50, _), (49, _), (48, _), (47, _), (46, _)] [_] mixed (by kernel_rfl) (by kernel_rfl) (by kernel_rfl) rfl rfl ?_
          refine TL.bin hF rfl rfl rfl rfl ?_
          refine TL.nil ?_
          refine TQ.then_n ?_
          first | refine T.cond_d rfl (fun ht55 => ?_) (fun ht55 => ?_) | refine T.cond _ rfl (fun ht55 => ?_) (fun ht55 => ?_)
          · refine T.seq ?_
            refine T.region ?_
            refine TL.move hF rfl rfl ?_
            refine TL.storeI hF 4 rfl rfl rfl rfl (by simp) ?_
            refine TL.nil ?_
            refine TQ.then_n ?_
            refine T.exit ?_
            refine TQ.block_o rfl ?_
            have hns : nextS (EN U) n (distS (EN U) n p) s.r = x := nextS_is hx2.1 ⟨ht55, hx2.2⟩ (fun b hb hc => hno b (take_sorted (succs_sorted U n s.r) hil (by simp only [succs, List.mem_filter, List.mem_range]; exact ⟨by omega, hc.2⟩) (by rw [hxv]; exact hb)) hc.1)
            exact TQ.rq_x ([(c5, .cells #[fnV 60] 72 (0, 0))] :: [(c4, .cells #[.int .i64 (s.r : Int)] 3 (0, 0))] :: [(c3, .cells #[ptr bw] 59 (0, 0))] :: seg' :: [(s.br, .cells #[.int .i64 ((x : Nat) : Int)] 3 (0, 0))] :: [(b5, .cells #[.slice (some ⟨bf, 0, none⟩) n n] 23 (0, 0))] :: iseg bf n (distS (EN U) n p) :: [(b3, .cells #[.int .i64 (p : Int), .int .i64 (q : Int)] 76 (0, 0))] :: (marksH s.ms ++ η)) rfl ⟨rfl, by rw [hns], by rw [hns]; exact hx2.1, by rw [hns]; exact ht55⟩
          · refine T.skip ?_
            refine TQ.block_n ?_
            exact TQ.rq_n _ rfl ⟨rfl, fun y hy => by
              rw [List.take_succ_eq_append_getElem hil, hxv] at hy
              rcases List.mem_append.1 hy with h | h
              · exact hno y h
              · have : y = x := by simpa using h
                subst this; exact ht55⟩
        · rintro mk _ ⟨rfl, hno⟩
          exfalso
          obtain ⟨y, hy, hey, hdy⟩ := hD.dn s.r hr (by omega)
          refine hno y ?_ hdy
          rw [List.length_map]
          show y ∈ (succs U n s.r).take (succs U n s.r).length
          rw [List.take_length]
          simp only [succs, List.mem_filter, List.mem_range]; exact ⟨hy, hey⟩
          --stop
        · rintro mk c _ ⟨rfl, rfl, hxn, hxd⟩
          generalize hxv : nextS (EN U) n (distS (EN U) n p) s.r = x at hxn hxd
          refine T.exit ?_
          refine TQ.block_x ?_
          refine TQ.block_n ?_
          refine TQ.then_n ?_
          refine T.seq ?_
          refine T.region ?_
          refine TL.load hF rfl (At.own' (i := 5) rfl rfl) rfl ?_
          refine TL.nil ?_
          refine TQ.then_n ?_
          refine T.region ?_
          refine TL.alloc hF rfl (fun b7 => ?_)
          first | refine TL.storeI hF 0 rfl rfl rfl rfl (by first | decide | simp) ?_ | refine TL.storeI hF 1 rfl rfl rfl rfl (by first | decide | simp) ?_ | refine TL.storeI hF 2 rfl rfl rfl rfl (by first | decide | simp) ?_ | refine TL.storeI hF 3 rfl rfl rfl rfl (by first | decide | simp) ?_
          refine TL.nil ?_
          refine TQ.hsub ([(b7, .cells #[.int .i64 (x : Int)] 3 (0, 0))] :: [(mk, .deferred (some []))] :: seg' :: [(b5, .cells #[.slice (some ⟨bf, 0, none⟩) n n] 23 (0, 0))] :: iseg bf n (distS (EN U) n p) :: [(b3, .cells #[.int .i64 (p : Int), .int .i64 (q : Int)] 76 (0, 0))] :: (marksH s.ms ++ η)) (List.Sublist.cons_cons _ (List.Sublist.cons_cons _ (List.Sublist.cons _ (List.Sublist.cons _ (List.Sublist.cons _ (List.Sublist.cons_cons _ (List.sublist_cons_self _ _))))))) ?_
          refine TQ.hperm (seg' :: [(b7, .cells #[.int .i64 ((x : Nat) : Int)] 3 (0, 0))] :: [(b5, .cells #[.slice (some ⟨bf, 0, none⟩) n n] 23 (0, 0))] :: iseg bf n (distS (EN U) n p) :: [(b3, .cells #[.int .i64 (p : Int), .int .i64 (q : Int)] 76 (0, 0))] :: (marksH (mk :: s.ms) ++ η)) ((List.perm_middle (l₁ := [_, _, _, _, _])).trans (List.perm_middle (l₁ := [_, _]))) ?_
          have e1 : (s.l ++ [s.r]).length = s.l.length + 1 := by simp
          exact TQ.roundD ⟨x, k', s.l ++ [s.r], a', cap', seg', b7, mk :: s.ms⟩ ⟨hxn, by simp only; rw [hxd]; omega, by simp only [e1]; omega, by simp only; rw [hcand, hk', wayS, hxv]; simp, by simpa using ho'⟩ (by simp only; omega) ⟨rfl, rfl, rfl, congrArg (fun z => some (Value.slice a' z cap')) e1.symm, rfl, trivial⟩ rfl rfl
      · refine T.exit ?_
        refine TQ.then_x ?_
        refine TQ.then_x ?_
        refine TQ.block_x ?_
        refine TQ.then_n ?_
        refine T.seq ?_
        refine T.region ?_
        refine TL.move hF rfl rfl ?_
        refine TL.assign hF rfl rfl ?_
        refine TL.nil ?_
        refine TQ.then_n ?_
        refine T.ret ?_
        have hrp : s.r = p := by have h : ¬ (s.r : Int) ≠ p := ht35; omega
        have hk0 : s.k = 0 := by have h := hD.z; rw [← hrp] at h; rw [← hrp, h] at hdk; omega
        have hr : roundS (EN U) n p q = s.l := by unfold roundS; rw [if_pos hd0, hcand, hk0]; simp [wayS]
        refine TQ.hsub (s.lg :: (marksH s.ms ++ η)) (List.Sublist.cons_cons _ (List.Sublist.cons _ (List.Sublist.cons _ (List.Sublist.cons _ (List.sublist_cons_self _ _))))) ?_
        refine TQ.hperm (marksH s.ms ++ s.lg :: η) List.perm_middle ?_
        refine TQ.marks (.inl rfl) ?_ s.ms
        refine TQ.retL0 [4] _ rfl rfl rfl ?_
        rw [hr]
        exact ⟨_, _, _, rfl, rfl, ho⟩
end Go.Proofs.Ytdehpaikapbckaa
/- The program's reason. -/
namespace Go.Proofs.Ytdehpaikapbckaa
open Go.Sl
variable {S : Nat → Prop} {w0 : World} {η : Heap}
def cmpL : List Int → List Int → Int
  | [], [] => 0
  | [], _ :: _ => -1
  | _ :: _, [] => 1
  | x :: xs, y :: ys => if x < y then -1 else if y < x then 1 else cmpL xs ys
theorem cmpL_less : ∀ {xs ys : List Int}, xs.length = ys.length → decide (cmpL xs ys < 0) = lessA xs ys
  | [], [], _ => rfl
  | [], _ :: _, h => by simp at h
  | _ :: _, [], h => by simp at h
  | x :: xs, y :: ys, h => by
    have h2 := cmpL_less (xs := xs) (ys := ys) (by simpa using h)
    unfold cmpL lessA
    by_cases h1 : x < y
    · have : x ≠ y := by omega
      simp [h1, this]
    · by_cases h3 : y < x
      · have : x ≠ y := by omega
        simp [h1, h3, this]
      · have : x = y := by omega
        subst this
        simpa using h2

set_option maxHeartbeats 2000000 in
theorem isNaN_fn (x : Int) :
    Rt Try.prog 68 [.int .i64 x].toArray S w0 η (fun v η' => v = .bool false ∧ η' = η) := by
  have hF := open_wide
  refine Rt.of (fn := Try.f68) Try.func68 rfl rfl ?_
  refine T.seq ?_
  refine T.region ?_
  refine TL.assign hF rfl rfl ?_
  refine TL.nil ?_
  refine TQ.then_n ?_
  refine T.seq ?_
  refine T.region ?_
  refine TL.move hF rfl rfl ?_
  refine TL.move hF rfl rfl ?_
  refine TL.bin hF rfl rfl rfl rfl ?_
  refine TL.assign hF rfl rfl ?_
  refine TL.nil ?_
  refine TQ.then_n ?_
  refine T.ret ?_
  refine TQ.rets [2] _ rfl rfl rfl ?_
  exact ⟨by simp [retVal], rfl⟩
set_option maxHeartbeats 2000000 in
theorem cmp_fn (x y : Int) :
    Rt Try.prog 62 [.int .i64 x, .int .i64 y].toArray S w0 η (fun v η' => v = .int .i64 (if x < y then -1 else if y < x then 1 else 0) ∧ η' = η) := by
  have hF := open_wide
  refine Rt.of (fn := Try.f62) Try.func62 rfl rfl ?_
  refine T.seq ?_
  refine T.region ?_
  refine TL.assign hF rfl rfl ?_
  refine TL.nil ?_
  refine TQ.then_n ?_
  refine T.seq ?_
  refine T.region ?_
  refine TL.move hF rfl rfl ?_
  refine TL.callV hF (isNaN_fn x) rfl rfl ?_
  refine TL.assign hF rfl rfl ?_
  refine TL.nil ?_
  refine TQ.then_n ?_
  refine T.seq ?_
  refine T.region ?_
  refine TL.move hF rfl rfl ?_
  refine TL.callV hF (isNaN_fn y) rfl rfl ?_
  refine TL.assign hF rfl rfl ?_
  refine TL.nil ?_
  refine TQ.then_n ?_
  refine T.seq ?_
  refine T.seq ?_
  refine T.region ?_
  refine TL.move hF rfl rfl ?_
  refine TL.nil ?_
  refine TQ.then_n ?_
  refine T.cond_f rfl rfl ?_
  refine T.skip ?_
  refine TQ.then_n ?_
  refine T.seq ?_
  refine T.seq ?_
  refine T.region ?_
  refine TL.move hF rfl rfl ?_
  refine TL.nil ?_
  refine TQ.then_n ?_
  refine T.cond_f rfl rfl ?_
  refine T.skip ?_
  refine TQ.then_n ?_
  refine T.seq ?_
  refine T.seq ?_
  refine T.region ?_
  refine TL.move hF rfl rfl ?_
  refine TL.move hF rfl rfl ?_
  refine TL.bin hF rfl rfl rfl rfl ?_
  refine TL.nil ?_
  refine TQ.then_n ?_
  first | refine T.cond_d rfl (fun ht16 => ?_) (fun ht16 => ?_) | refine T.cond _ rfl (fun ht16 => ?_) (fun ht16 => ?_)
  · refine T.seq ?_
    refine T.region ?_
    refine TL.assign hF rfl rfl ?_
    refine TL.nil ?_
    refine TQ.then_n ?_
    refine T.ret ?_
    refine TQ.then_r ?_
    refine TQ.rets [4] _ rfl rfl rfl ?_
    have h : x < y := ht16
    exact ⟨by rw [if_pos h]; rfl, rfl⟩
  · refine T.skip ?_
    refine TQ.then_n ?_
    refine T.seq ?_
    refine T.seq ?_
    refine T.region ?_
    refine TL.move hF rfl rfl ?_
    refine TL.move hF rfl rfl ?_
    refine TL.bin hF rfl rfl rfl rfl ?_
    refine TL.nil ?_
    refine TQ.then_n ?_
    first | refine T.cond_d rfl (fun ht19 => ?_) (fun ht19 => ?_) | refine T.cond _ rfl (fun ht19 => ?_) (fun ht19 => ?_)
    · refine T.seq ?_
      refine T.region ?_
      refine TL.assign hF rfl rfl ?_
      refine TL.nil ?_
      refine TQ.then_n ?_
      refine T.ret ?_
      refine TQ.then_r ?_
      refine TQ.rets [4] _ rfl rfl rfl ?_
      have h : ¬ x < y := ht16
      have h2 : y < x := ht19
      exact ⟨by rw [if_neg h, if_pos h2]; rfl, rfl⟩
    · refine T.skip ?_
      refine TQ.then_n ?_
      refine T.seq ?_
      refine T.region ?_
      refine TL.assign hF rfl rfl ?_
      refine TL.nil ?_
      refine TQ.then_n ?_
      refine T.ret ?_
      refine TQ.rets [4] _ rfl rfl rfl ?_
      have h : ¬ x < y := ht16
      have h2 : ¬ y < x := ht19
      exact ⟨by rw [if_neg h, if_neg h2]; rfl, rfl⟩
set_option maxHeartbeats 2000000 in
theorem Compare_fn {a b : Option Addr} {xs ys : List Int} {ca cb : Nat} (hx : Row S w0 η a (ints xs)) (hy : Row S w0 η b (ints ys)) (hl : xs.length < 2 ^ 63) :
    Rt Try.prog 37 [.slice a xs.length ca, .slice b ys.length cb].toArray S w0 η (fun v η' => v = .int .i64 (cmpL xs ys) ∧ η' = η) := by
  have hF := open_wide
  refine Rt.of (fn := Try.f37) Try.func37 rfl rfl ?_
  refine T.seq ?_
  refine T.region ?_
  refine TL.assign hF rfl rfl ?_
  refine TL.nil ?_
  refine TQ.then_n ?_
  refine T.seq ?_
  refine T.seq ?_
  refine T.region ?_
  refine TL.move hF rfl rfl ?_
  refine TL.len hF rfl rfl ?_
  refine TL.move hF rfl rfl ?_
  refine TL.nil ?_
  refine TQ.then_n ?_
  refine T.block ?_
  refine T.loop (ι := Nat) (fun k => k ≤ xs.length ∧ k ≤ ys.length ∧ cmpL xs ys = cmpL (xs.drop k) (ys.drop k)) (fun k => [(1, .slice b ys.length cb), (0, .slice a xs.length ca), (9, .slice a xs.length ca), (10, .int .i64 (xs.length : Int)), (11, .int .i64 (k : Int))]) (fun _ => η) (fun k => xs.length - k) 0 ⟨Nat.zero_le _, Nat.zero_le _, by simp⟩ ⟨rfl, rfl, rfl, rfl, rfl, trivial⟩ rfl ?_
  rintro k ⟨hk, hk2, hno⟩
  refine T.seq ?_
  refine T.region ?_
  refine TL.bin hF rfl rfl rfl rfl ?_
  refine TL.nil ?_
  refine TQ.then_n ?_
  refine T.seq ?_
  first | refine T.cond_d rfl (fun ht12 => ?_) (fun ht12 => ?_) | refine T.cond _ rfl (fun ht12 => ?_) (fun ht12 => ?_)
  · refine T.skip ?_
    refine TQ.then_n ?_
    refine T.seq ?_
    refine T.block ?_
    refine T.seq ?_
    refine T.region ?_
    refine TL.move hF rfl rfl ?_
    refine TL.indexAddr hF rfl rfl (hx.adi (i := k) (by simp; omega)) (by omega) (by omega) rfl ?_
    refine TL.load hF rfl (hx.int (i := k) (by omega)) rfl ?_
    refine TL.assign hF rfl rfl ?_
    refine TL.assign hF rfl rfl ?_
    refine TL.nil ?_
    refine TQ.then_n ?_
    refine T.seq ?_
    refine T.seq ?_
    refine T.region ?_
    refine TL.move hF rfl rfl ?_
    refine TL.move hF rfl rfl ?_
    refine TL.len hF rfl rfl ?_
    refine TL.bin hF rfl rfl rfl rfl ?_
    refine TL.nil ?_
    refine TQ.then_n ?_
    first | refine T.cond_d rfl (fun ht19 => ?_) (fun ht19 => ?_) | refine T.cond _ rfl (fun ht19 => ?_) (fun ht19 => ?_)
    · refine T.seq ?_
      refine T.region ?_
      refine TL.assign hF rfl rfl ?_
      refine TL.nil ?_
      refine TQ.then_n ?_
      refine T.ret ?_
      refine TQ.then_r ?_
      refine TQ.block_r ?_
      refine TQ.then_r ?_
      refine TQ.then_r ?_
      refine TQ.block_r ?_
      refine TQ.then_r ?_
      refine TQ.rets [4] _ rfl rfl rfl ?_
      have hkx : k < xs.length := by omega
      have hky : k = ys.length := by omega
      refine ⟨?_, rfl⟩
      rw [hno, drop_step hkx, List.drop_of_length_le (l := ys) (by omega), cmpL]; rfl
    · refine T.skip ?_
      refine TQ.then_n ?_
      refine T.seq ?_
      refine T.region ?_
      refine TL.move hF rfl rfl ?_
      refine TL.move hF rfl rfl ?_
      refine TL.indexAddr hF rfl rfl (hy.adi (i := k) (by simp; omega)) (by omega) (by omega) rfl ?_
      refine TL.load hF rfl (hy.int (i := k) (by omega)) rfl ?_
      refine TL.assign hF rfl rfl ?_
      refine TL.nil ?_
      refine TQ.then_n ?_
      refine T.seq ?_
      refine T.region ?_
      refine TL.move hF rfl rfl ?_
      refine TL.move hF rfl rfl ?_
      refine TL.callV hF (cmp_fn (xs[k]'(by omega)) (ys[k]'(by omega))) rfl rfl ?_
      refine TL.assign hF rfl rfl ?_
      refine TL.nil ?_
      refine TQ.then_n ?_
      refine T.seq ?_
      refine T.region ?_
      refine TL.move hF rfl rfl ?_
      refine TL.bin hF rfl rfl rfl rfl ?_
      refine TL.nil ?_
      refine TQ.then_n ?_
      first | refine T.cond_d rfl (fun ht28 => ?_) (fun ht28 => ?_) | refine T.cond _ rfl (fun ht28 => ?_) (fun ht28 => ?_)
      · refine T.seq ?_
        refine T.region ?_
        refine TL.move hF rfl rfl ?_
        refine TL.assign hF rfl rfl ?_
        refine TL.nil ?_
        refine TQ.then_n ?_
        refine T.ret ?_
        refine TQ.block_r ?_
        refine TQ.then_r ?_
        refine TQ.then_r ?_
        refine TQ.block_r ?_
        refine TQ.then_r ?_
        refine TQ.rets [4] _ rfl rfl rfl ?_
        have hkx : k < xs.length := by omega
        have hky : k < ys.length := by omega
        have h : (if xs[k] < ys[k] then (-1 : Int) else if ys[k] < xs[k] then 1 else 0) ≠ 0 := ht28
        refine ⟨?_, rfl⟩
        rw [hno, drop_step hkx, drop_step hky, cmpL]
        by_cases h1 : xs[k] < ys[k]
        · simp [h1, retVal]
        · by_cases h2 : ys[k] < xs[k]
          · simp [h1, h2, retVal]
          · rw [if_neg h1, if_neg h2] at h; exact absurd rfl h
      · refine T.skip ?_
        refine TQ.block_n ?_
        refine TQ.then_n ?_
        refine T.region ?_
        refine TL.add hF rfl rfl (by omega) (by omega) rfl ?_
        refine TL.move hF rfl rfl ?_
        refine TL.nil ?_
        have hkx : k < xs.length := by omega
        have hky : k < ys.length := by omega
        have h : ¬ (if xs[k] < ys[k] then (-1 : Int) else if ys[k] < xs[k] then 1 else 0) ≠ 0 := ht28
        refine TQ.round (k + 1) ⟨by omega, by omega, ?_⟩ (by omega) ⟨rfl, rfl, rfl, rfl, rfl, trivial⟩ rfl
        rw [hno, drop_step hkx, drop_step hky, cmpL]
        by_cases h1 : xs[k] < ys[k]
        · rw [if_pos h1] at h; exact absurd (by decide) h
        · rw [if_neg h1] at h ⊢
          by_cases h2 : ys[k] < xs[k]
          · rw [if_pos h2] at h; exact absurd (by decide) h
          · rw [if_neg h2]
  · refine T.exit ?_
    refine TQ.then_x ?_
    refine TQ.then_x ?_
    refine TQ.block_x ?_
    refine TQ.then_n ?_
    refine T.seq ?_
    refine T.seq ?_
    refine T.region ?_
    refine TL.move hF rfl rfl ?_
    refine TL.len hF rfl rfl ?_
    refine TL.move hF rfl rfl ?_
    refine TL.len hF rfl rfl ?_
    refine TL.bin hF rfl rfl rfl rfl ?_
    refine TL.nil ?_
    refine TQ.then_n ?_
    first | refine T.cond_d rfl (fun ht35 => ?_) (fun ht35 => ?_) | refine T.cond _ rfl (fun ht35 => ?_) (fun ht35 => ?_)
    · refine T.seq ?_
      refine T.region ?_
      refine TL.assign hF rfl rfl ?_
      refine TL.nil ?_
      refine TQ.then_n ?_
      refine T.ret ?_
      refine TQ.then_r ?_
      refine TQ.rets [4] _ rfl rfl rfl ?_
      have hkx : k = xs.length := by omega
      have hky : k < ys.length := by omega
      refine ⟨?_, rfl⟩
      rw [hno, List.drop_of_length_le (l := xs) (by omega), drop_step hky, cmpL]; rfl
    · refine T.skip ?_
      refine TQ.then_n ?_
      refine T.seq ?_
      refine T.region ?_
      refine TL.assign hF rfl rfl ?_
      refine TL.nil ?_
      refine TQ.then_n ?_
      refine T.ret ?_
      refine TQ.rets [4] _ rfl rfl rfl ?_
      have hkx : k = xs.length := by omega
      have hky : k = ys.length := by omega
      refine ⟨?_, rfl⟩
      rw [hno, List.drop_of_length_le (l := xs) (by omega), List.drop_of_length_le (l := ys) (by omega), cmpL]; rfl
theorem CompareN_fn {a b : Option Addr} {xs ys : List Nat} {ca cb : Nat} (hx : Row S w0 η a (nats xs)) (hy : Row S w0 η b (nats ys)) (hl : xs.length < 2 ^ 63) :
    Rt Try.prog 37 [.slice a xs.length ca, .slice b ys.length cb].toArray S w0 η (fun v η' => v = .int .i64 (cmpL (casts xs) (casts ys)) ∧ η' = η) := by
  have h := Compare_fn (a := a) (b := b) (xs := casts xs) (ys := casts ys) (ca := ca) (cb := cb) (by unfold casts; rw [← nats_ints]; exact hx) (by unfold casts; rw [← nats_ints]; exact hy) (by simpa [casts] using hl)
  simp only [casts, List.length_map] at h
  exact h
def tryP (E : Nat → Nat → Bool) (n a : Nat) (best : List Nat) (b : Nat) : List Nat := if 0 ≤ distS E n a b then betterS best (candS E n a b) else best
def succD (U : Int → Int → Bool → Bool) (n r : Nat) : List Nat := (List.range n).filter fun s : Nat => U r s true
/-- What is known of the best one behind some denials. -/
def bestP (U : Int → Int → Bool → Bool) (n k i : Nat) : List Nat := ((succD U n k).take i).foldl (tryP (EN U) n k) (bestS (EN U) (DN U) n k)
theorem bestP_zero (U : Int → Int → Bool → Bool) (n k : Nat) : bestP U n k 0 = bestS (EN U) (DN U) n k := by simp [bestP]
theorem bestP_all (U : Int → Int → Bool → Bool) (n k : Nat) : bestP U n k (succD U n k).length = bestS (EN U) (DN U) n (k + 1) := by
  rw [bestS_succ]
  unfold bestP rowS succD
  rw [List.take_length, List.foldl_filter]
  have e : (fun (x : List Nat) (y : Nat) => if U k y true = true then tryP (EN U) n k x y else x) = tryS (EN U) (DN U) n k := by
    funext best b
    unfold tryS tryP DN
    by_cases h : U k b true = true
    · simp [h]
    · simp [h]
  rw [e]
theorem bestP_succ {U : Int → Int → Bool → Bool} {n k i : Nat} (h : i < (succD U n k).length) : bestP U n k (i + 1) = tryP (EN U) n k (bestP U n k i) (succD U n k)[i] := by
  unfold bestP
  rw [List.take_succ_eq_append_getElem h, List.foldl_append]
  rfl
theorem round_len {E : Nat → Nat → Bool} {n a b : Nat} (ha : a < n) (hb : b < n) : (roundS E n a b).length ≤ n := by
  unfold roundS
  split
  · have := levS_lt (E := E) (n := n) (t := a) hb
    simp only [candS, List.length_cons, wayS_len]; unfold distS; omega
  · simp
theorem round_pos {E : Nat → Nat → Bool} {n a b : Nat} (h : 0 < (roundS E n a b).length) : 0 ≤ distS E n a b ∧ roundS E n a b = candS E n a b := by
  unfold roundS at h ⊢
  split
  · rename_i h1; exact ⟨h1, rfl⟩
  · rename_i h1; rw [if_neg h1] at h; simp at h
theorem tryP_take {E : Nat → Nat → Bool} {n a b : Nat} {best : List Nat} (h : 0 < (roundS E n a b).length) (hc : best.length = 0 ∨ less (casts (roundS E n a b)) (casts best) = true) : tryP E n a best b = roundS E n a b := by
  obtain ⟨h1, h2⟩ := round_pos h
  unfold tryP betterS
  rw [if_pos h1, ← h2, if_pos hc]
theorem tryP_keep {E : Nat → Nat → Bool} {n a b : Nat} {best : List Nat} (hc : ¬ (best.length = 0 ∨ less (casts (roundS E n a b)) (casts best) = true)) : tryP E n a best b = best := by
  unfold tryP betterS
  by_cases h1 : 0 ≤ distS E n a b
  · rw [if_pos h1]
    have h2 : roundS E n a b = candS E n a b := by unfold roundS; rw [if_pos h1]
    rw [← h2, if_neg hc]
  · rw [if_neg h1]
theorem tryP_none {E : Nat → Nat → Bool} {n a b : Nat} {best : List Nat} (h : ¬ 0 < (roundS E n a b).length) : tryP E n a best b = best := by
  unfold tryP
  rw [if_neg]
  intro h1
  apply h
  unfold roundS
  rw [if_pos h1]
  simp [candS]
theorem less_shorter {xs ys : List Nat} (h : xs.length < ys.length) : less (casts xs) (casts ys) = true := by
  unfold less casts
  simp only [List.length_map]
  rw [if_pos (by omega)]; simp [h]
theorem less_longer {xs ys : List Nat} (h : ¬ xs.length < ys.length) (h2 : xs.length ≠ ys.length) : less (casts xs) (casts ys) = false := by
  unfold less casts
  simp only [List.length_map]
  rw [if_pos h2]; simp [h]
theorem less_same {xs ys : List Nat} (h : xs.length = ys.length) : less (casts xs) (casts ys) = decide (cmpL (casts xs) (casts ys) < 0) := by
  rw [cmpL_less (by simpa [casts] using h)]
  unfold less casts
  simp only [List.length_map]
  rw [if_neg (by omega)]

set_option maxHeartbeats 2000000 in
theorem Reason_prog {p : Option Addr} {rs : List RuleD} {c : Nat} (rels : Int) (hr : Rules S w0 [] p rs) (hl : rs.length < 2 ^ 63) (hbl : ∀ r ∈ rs, r.body.length < 2 ^ 63) :
    Rt Try.prog 12 [.int .i64 rels, .slice p rs.length c].toArray S w0 η (fun v η' => ∃ a cap segs, v = .tuple #[.slice a (reasonS rels rs).1.length cap, .int .i64 (reasonS rels rs).2] ∧ η' = segs ++ η ∧ Row S w0 segs a (nats (reasonS rels rs).1)) := by
  have hF := open_wide
  refine Rt.ofL (fn := Try.f12) Try.func12 rfl rfl ?_
  refine T.seq ?_
  refine T.region ?_
  refine TL.assign hF rfl rfl ?_
  refine TL.alloc hF rfl (fun b5 => ?_)
  refine TL.nil ?_
  refine TQ.then_n ?_
  refine T.seq ?_
  refine T.region ?_
  refine TL.makeFunc hF rfl rfl rfl ?_
  refine TL.defer hF rfl rfl ?_
  refine TL.nil ?_
  refine TQ.then_n ?_
  refine T.seq ?_
  refine T.region ?_
  refine TL.move hF rfl rfl ?_
  refine TL.move hF rfl rfl ?_
  refine TL.callE hF (opened_fn rels hr hl hbl) rfl rfl ?_ ?_
  · rintro _ _ ⟨hck, bw, bm, es, clock, m, rfl, rfl, hwo, hw⟩
    obtain ⟨hk1, hk2, hk3, hk4⟩ := check_ok hck
    obtain ⟨n, rfl⟩ : ∃ n : Nat, rels = (n : Int) := ⟨rels.toNat, by omega⟩
    have hU := uok hk4
    have hweb : ∀ η2 : Heap, wseg bw bm n ∈ η2 → [(bm, Obj.map es clock)] ∈ η2 → Web η2 bw n (UR rs) m := fun η2 h1 h2 => ⟨⟨bm, es, clock, h1, h2, hwo⟩, hw⟩
    refine TL.assign hF rfl rfl ?_
    refine TL.nil ?_
    refine TQ.then_n ?_
    refine T.seq ?_
    refine T.region ?_
    refine TL.alloc hF rfl (fun b7 => ?_)
    refine TL.nil ?_
    refine TQ.then_n ?_
    refine T.seq ?_
    refine T.region ?_
    refine TL.move hF rfl rfl ?_
    refine TL.makeFunc hF rfl rfl rfl ?_
    refine TL.alloc hF rfl (fun b8 => ?_)
    first | refine TL.storeI hF 0 rfl rfl rfl rfl (by first | decide | simp) ?_ | refine TL.storeI hF 1 rfl rfl rfl rfl (by first | decide | simp) ?_ | refine TL.storeI hF 2 rfl rfl rfl rfl (by first | decide | simp) ?_ | refine TL.storeI hF 3 rfl rfl rfl rfl (by first | decide | simp) ?_
    refine TL.nil ?_
    refine TQ.then_n ?_
    refine T.seq ?_
    refine T.seq ?_
    refine T.region ?_
    refine TL.move hF rfl rfl ?_
    refine TL.move hF rfl rfl ?_
    refine TL.nil ?_
    refine TQ.then_n ?_
    refine T.block ?_
    refine T.hnil ?_
    refine T.hperm ([] :: [(b7, .cells #[.slice none (bestS (EN (UR rs)) (DN (UR rs)) n 0).length 0] 23 (0, 0))] :: [(b8, .cells #[.func (.func 34) #[ptr bw] #[]] 66 (0, 0))] :: wseg bw bm n :: [(bm, .map es clock)] :: [(b5, .cells #[.int .i64 0] 27 (0, 0))] :: (marksH [] ++ η)) ((List.Perm.swap _ _ _).cons _) ?_
    refine T.loopD (ι := Nat × Option Addr × Nat × Seg × List Nat) (fun i => i.1 ≤ n ∧ OSl 3 1 (.slice i.2.1 (bestS (EN (UR rs)) (DN (UR rs)) n i.1).length i.2.2.1) (bestS (EN (UR rs)) (DN (UR rs)) n i.1).length (nats (bestS (EN (UR rs)) (DN (UR rs)) n i.1)) i.2.2.2.1) (fun i => [(4, .slice none 0 0), (5, ptr b5), (6, ptr bw), (7, ptr b7), (8, ptr b8), (18, .int .i64 (n : Int)), (19, .int .i64 (i.1 : Int))]) (fun i => i.2.2.2.1 :: [(b7, .cells #[.slice i.2.1 (bestS (EN (UR rs)) (DN (UR rs)) n i.1).length i.2.2.1] 23 (0, 0))] :: [(b8, .cells #[.func (.func 34) #[ptr bw] #[]] 66 (0, 0))] :: wseg bw bm n :: [(bm, .map es clock)] :: [(b5, .cells #[.int .i64 0] 27 (0, 0))] :: (marksH i.2.2.2.2 ++ η)) (fun i => marksOf i.2.2.2.2 ++ [{ target := .fn (.func 33) #[ptr b5], args := #[] }]) (fun i => n - i.1) (0, none, 0, [], []) ⟨Nat.zero_le _, OSl.nil 3 1⟩ ⟨rfl, rfl, rfl, rfl, rfl, rfl, rfl, trivial⟩ rfl rfl ?_
    rintro ⟨k, oa, oc, og, ms⟩ ⟨hk, ho⟩
    simp only at hk ho
    refine T.seq ?_
    refine T.region ?_
    refine TL.bin hF rfl rfl rfl rfl ?_
    refine TL.nil ?_
    refine TQ.then_n ?_
    refine T.seq ?_
    first | refine T.cond_d rfl (fun ht20 => ?_) (fun ht20 => ?_) | refine T.cond _ rfl (fun ht20 => ?_) (fun ht20 => ?_)
    · refine T.skip ?_
      refine TQ.then_n ?_
      refine T.seq ?_
      refine T.block ?_
      refine T.seq ?_
      refine T.region ?_
      refine TL.move hF rfl rfl ?_
      refine TL.alloc hF rfl (fun b9 => ?_)
      first | refine TL.storeI hF 0 rfl rfl rfl rfl (by first | decide | simp) ?_ | refine TL.storeI hF 1 rfl rfl rfl rfl (by first | decide | simp) ?_ | refine TL.storeI hF 2 rfl rfl rfl rfl (by first | decide | simp) ?_ | refine TL.storeI hF 3 rfl rfl rfl rfl (by first | decide | simp) ?_
      refine TL.nil ?_
      refine TQ.then_n ?_
      refine T.seq ?_
      have hkn : k < n := by have h : (k : Int) < n := ht20; omega
      refine T.draw ?_
      refine DR.stepV [_] rfl [(6, _, none)] rfl rfl ⟨⟨rfl, by kernel_rfl⟩, trivial⟩ (fun ext => TL.move hF rfl rfl TL.fin) ?_
      refine DR.stepV [_, _] rfl [(9, _, none)] rfl rfl ⟨⟨rfl, by kernel_rfl⟩, trivial⟩ (fun ext => TL.load hF rfl (At.own' (i := 0) rfl rfl) rfl TL.fin) ?_
      refine DR.stepV [_, _, _] rfl [] rfl rfl trivial (fun ext => TL.callV hF (all_fn) rfl rfl TL.fin) ?_
      refine DR.stepV [_, _, _, _] rfl [(24, _, some 2)] rfl rfl ⟨⟨rfl, rfl, rfl⟩, trivial⟩ (fun ext => TL.indexR hF rfl rfl (r := .agg #[fnV 61]) (fun w => by kernel_rfl) rfl TL.fin) ?_
      refine DR.done [(25, _), (24, _), (23, _), (22, _)] [_] mixed (by kernel_rfl) (by kernel_rfl) (by kernel_rfl) rfl rfl ?_
      refine TL.call hF (from_fn (ptr bw) rfl k 61) rfl rfl ?_
      rintro _ _ ⟨c3, c4, c5, rfl, rfl⟩
      refine TL.nil ?_
      refine TQ.then_n ?_
      refine T.block ?_
      refine T.rangeFunc (fst := []) (cap := [ptr c3, ptr c5, ptr c4]) rfl (from_iter (S := S) (w0 := w0) (b3 := c3) (b4 := c4) (b5 := c5) (bw := bw) (r := k) (g := 61) (n := n) (U := UR rs) (m := m) (by omega) (kind_denial (UR rs) hU.le)) (by
          intro e he; obtain ⟨x, _, rfl⟩ := List.mem_map.1 he; rfl) (by simp) (fun i η1 => ∃ oa oc og, η1 = [(c5, .cells #[fnV 61] 72 (0, 0))] :: [(c4, .cells #[.int .i64 (k : Int)] 3 (0, 0))] :: [(c3, .cells #[ptr bw] 59 (0, 0))] :: [(b9, .cells #[.int .i64 (k : Int)] 3 (0, 0))] :: og :: [(b7, .cells #[.slice oa (bestP (UR rs) n k i).length oc] 23 (0, 0))] :: [(b8, .cells #[.func (.func 34) #[ptr bw] #[]] 66 (0, 0))] :: wseg bw bm n :: [(bm, .map es clock)] :: [(b5, .cells #[.int .i64 0] 27 (0, 0))] :: (marksH ms ++ η) ∧ OSl 3 1 (.slice oa (bestP (UR rs) n k i).length oc) (bestP (UR rs) n k i).length (nats (bestP (UR rs) n k i)) og) (fun _ _ => False) ⟨oa, oc, og, by rw [bestP_zero]; rfl, by rw [bestP_zero]; exact ho⟩ ?_ ?_ ?_ ?_
      · rintro i _ tl ⟨oa, oc, og, rfl, _⟩
        exact ⟨by simp, by simp, by simp, hweb _ (by simp) (by simp)⟩
      · clear ho
        rintro l tl tl' i e _ hie ⟨oa, oc, og, rfl, ho⟩
        have hF := open_round l
        have hil : i < (succD (UR rs) n k).length := by have := (List.getElem?_eq_some_iff.1 hie).1; simpa [succD] using this
        have hee : e = [.int .i64 (((succD (UR rs) n k)[i] : Nat) : Int)] := by
          have := (List.getElem?_eq_some_iff.1 hie).2; rw [← this]; simp [succD]
        subst hee
        have hxm : (succD (UR rs) n k)[i] ∈ succD (UR rs) n k := List.getElem_mem _
        generalize hsv : (succD (UR rs) n k)[i] = s at hxm ⊢
        have hx2 : s < n ∧ UR rs k s true = true := by simpa [succD] using hxm
        refine T.region ?_
        refine TL.assign hF rfl rfl ?_
        refine TL.nil ?_
        refine TQ.swapT _ rfl ?_
        refine T.block ?_
        refine T.seq ?_
        refine T.region ?_
        refine TL.load hF rfl (At.own' (i := 6) rfl rfl) rfl ?_
        refine TL.load hF rfl (At.own' (i := 3) rfl rfl) rfl ?_
        refine TL.move hF rfl rfl ?_
        refine TL.build hF rfl (r := KU (k, s)) (fun w => by kernel_rfl) rfl ?_
        refine TL.call hF (round_fn (n := n) (p := k) (q := s) (U := UR rs) (m := m) (by omega) (hweb _ (by simp) (by simp)) hkn hx2.1) rfl rfl ?_
        rintro _ _ ⟨ca, cc, cg, rfl, rfl, hcs⟩
        refine TL.assign hF rfl rfl ?_
        refine TL.nil ?_
        refine TQ.then_n ?_
        refine T.seq ?_
        refine T.region ?_
        refine TL.move hF rfl rfl ?_
        refine TL.len hF rfl rfl ?_
        refine TL.bin hF rfl rfl rfl rfl ?_
        refine TL.move hF rfl rfl ?_
        refine TL.gd (t := 36) rfl (fun g11_36 => ?_) (fun g11_36 => ?_)
        · refine TL.on rfl rfl rfl (decide_eq_true g11_36) ?_
          refine TL.load hF rfl (At.own' (i := 6) rfl rfl) rfl ?_
          refine TL.on rfl rfl rfl (decide_eq_true g11_36) ?_
          refine TL.len hF rfl rfl ?_
          refine TL.on rfl rfl rfl (decide_eq_true g11_36) ?_
          refine TL.bin hF rfl rfl rfl rfl ?_
          refine TL.on rfl rfl rfl (decide_eq_true g11_36) ?_
          refine TL.move hF rfl rfl ?_
          refine TL.gd (t := 40) rfl (fun g11_40 => ?_) (fun g11_40 => ?_)
          · refine TL.off hF rfl rfl rfl (decide_eq_true g11_40) rfl ?_
            refine TL.off hF rfl rfl rfl (decide_eq_true g11_40) rfl ?_
            refine TL.off hF rfl rfl rfl (decide_eq_true g11_40) rfl ?_
            refine TL.off hF rfl rfl rfl (decide_eq_true g11_40) rfl ?_
            refine TL.off hF rfl rfl rfl (decide_eq_true g11_40) rfl ?_
            refine TL.on rfl rfl rfl (decide_eq_true g11_36) ?_
            refine TL.pickT hF rfl (decide_eq_true g11_40) rfl rfl ?_
            refine TL.on rfl rfl rfl (decide_eq_true g11_36) ?_
            refine TL.move hF rfl rfl ?_
            refine TL.off hF rfl rfl rfl rfl rfl ?_
            refine TL.off hF rfl rfl rfl rfl rfl ?_
            refine TL.off hF rfl rfl rfl rfl rfl ?_
            refine TL.off hF rfl rfl rfl rfl rfl ?_
            refine TL.off hF rfl rfl rfl rfl rfl ?_
            refine TL.off hF rfl rfl rfl rfl rfl ?_
            refine TL.offU hF rfl rfl rfl rfl ?_
            refine TL.offU hF rfl rfl rfl rfl ?_
            refine TL.offU hF rfl rfl rfl rfl ?_
            refine TL.offU hF rfl rfl rfl rfl ?_
            refine TL.off hF rfl rfl rfl rfl rfl ?_
            refine TL.on rfl rfl rfl (decide_eq_true g11_36) ?_
            refine TL.pickT hF rfl rfl rfl rfl ?_
            refine TL.pickT hF rfl (decide_eq_true g11_36) rfl rfl ?_
            refine TL.nil ?_
            refine TQ.then_n ?_
            refine T.cond_t rfl rfl ?_
            refine T.region ?_
            refine TL.move hF rfl rfl ?_
            refine TL.storeI hF 6 rfl rfl rfl rfl (by simp) ?_
            refine TL.nil ?_
            refine TQ.block_n ?_
            have hpos : 0 < (roundS (EN (UR rs)) n k s).length := by have h : (0 : Int) < _ := g11_36; omega
            have e : (bestP (UR rs) n k (i + 1)) = roundS (EN (UR rs)) n k s := by rw [bestP_succ hil, hsv]; exact tryP_take hpos (.inl (by have h : ((bestP (UR rs) n k i).length : Int) = 0 := g11_40; omega))
            have ho2 : OSl 3 1 (.slice ca (bestP (UR rs) n k (i + 1)).length cc) (bestP (UR rs) n k (i + 1)).length (nats (bestP (UR rs) n k (i + 1))) cg := by rw [e]; exact hcs
            refine TQ.hsub (cg :: [(c5, .cells #[fnV 61] 72 (0, 0))] :: [(c4, .cells #[.int .i64 (k : Int)] 3 (0, 0))] :: [(c3, .cells #[ptr bw] 59 (0, 0))] :: [(b9, .cells #[.int .i64 (k : Int)] 3 (0, 0))] :: [(b7, .cells #[.slice ca (roundS (EN (UR rs)) n k s).length cc] 23 (0, 0))] :: [(b8, .cells #[.func (.func 34) #[ptr bw] #[]] 66 (0, 0))] :: wseg bw bm n :: [(bm, .map es clock)] :: [(b5, .cells #[.int .i64 0] 27 (0, 0))] :: (marksH ms ++ η) ++ tl') (List.Sublist.cons_cons _ (List.Sublist.cons_cons _ (List.Sublist.cons_cons _ (List.Sublist.cons_cons _ (List.Sublist.cons_cons _ (List.sublist_cons_self _ _)))))) ?_
            refine TQ.hperm ([(c5, .cells #[fnV 61] 72 (0, 0))] :: [(c4, .cells #[.int .i64 (k : Int)] 3 (0, 0))] :: [(c3, .cells #[ptr bw] 59 (0, 0))] :: [(b9, .cells #[.int .i64 (k : Int)] 3 (0, 0))] :: cg :: [(b7, .cells #[.slice ca (roundS (EN (UR rs)) n k s).length cc] 23 (0, 0))] :: [(b8, .cells #[.func (.func 34) #[ptr bw] #[]] 66 (0, 0))] :: wseg bw bm n :: [(bm, .map es clock)] :: [(b5, .cells #[.int .i64 0] 27 (0, 0))] :: (marksH ms ++ η) ++ tl') (List.perm_middle (l₁ := [_, _, _, _])) ?_
            exact TQ.rq_n ([(c5, .cells #[fnV 61] 72 (0, 0))] :: [(c4, .cells #[.int .i64 (k : Int)] 3 (0, 0))] :: [(c3, .cells #[ptr bw] 59 (0, 0))] :: [(b9, .cells #[.int .i64 (k : Int)] 3 (0, 0))] :: cg :: [(b7, .cells #[.slice ca (roundS (EN (UR rs)) n k s).length cc] 23 (0, 0))] :: [(b8, .cells #[.func (.func 34) #[ptr bw] #[]] 66 (0, 0))] :: wseg bw bm n :: [(bm, .map es clock)] :: [(b5, .cells #[.int .i64 0] 27 (0, 0))] :: (marksH ms ++ η)) rfl ⟨ca, cc, cg, by rw [e], ho2⟩
          · refine TL.on rfl rfl rfl (decide_eq_false g11_40) ?_
            refine TL.move hF rfl rfl ?_
            refine TL.on rfl rfl rfl (decide_eq_false g11_40) ?_
            refine TL.len hF rfl rfl ?_
            refine TL.on rfl rfl rfl (decide_eq_false g11_40) ?_
            refine TL.load hF rfl (At.own' (i := 6) rfl rfl) rfl ?_
            refine TL.on rfl rfl rfl (decide_eq_false g11_40) ?_
            refine TL.len hF rfl rfl ?_
            refine TL.on rfl rfl rfl (decide_eq_false g11_40) ?_
            refine TL.bin hF rfl rfl rfl rfl ?_
            refine TL.on rfl rfl rfl (decide_eq_true g11_36) ?_
            refine TL.pickF hF rfl (decide_eq_false g11_40) rfl rfl ?_
            refine TL.on rfl rfl rfl (decide_eq_true g11_36) ?_
            refine TL.move hF rfl rfl ?_
            refine TL.gd (t := 47) rfl (fun g11_47 => ?_) (fun g11_47 => ?_)
            · refine TL.off hF rfl rfl rfl (decide_eq_true g11_47) rfl ?_
              refine TL.off hF rfl rfl rfl (decide_eq_true g11_47) rfl ?_
              refine TL.off hF rfl rfl rfl (decide_eq_true g11_47) rfl ?_
              refine TL.off hF rfl rfl rfl (decide_eq_true g11_47) rfl ?_
              refine TL.off hF rfl rfl rfl (decide_eq_true g11_47) rfl ?_
              refine TL.off hF rfl rfl rfl (decide_eq_true g11_47) rfl ?_
              refine TL.offU hF rfl rfl rfl rfl ?_
              refine TL.offU hF rfl rfl rfl rfl ?_
              refine TL.offU hF rfl rfl rfl rfl ?_
              refine TL.offU hF rfl rfl rfl rfl ?_
              refine TL.off hF rfl rfl rfl (decide_eq_true g11_47) rfl ?_
              refine TL.on rfl rfl rfl (decide_eq_true g11_36) ?_
              refine TL.pickT hF rfl (decide_eq_true g11_47) rfl rfl ?_
              refine TL.pickT hF rfl (decide_eq_true g11_36) rfl rfl ?_
              refine TL.nil ?_
              refine TQ.then_n ?_
              refine T.cond_t rfl rfl ?_
              refine T.region ?_
              refine TL.move hF rfl rfl ?_
              refine TL.storeI hF 6 rfl rfl rfl rfl (by simp) ?_
              refine TL.nil ?_
              refine TQ.block_n ?_
              have hpos : 0 < (roundS (EN (UR rs)) n k s).length := by have h : (0 : Int) < _ := g11_36; omega
              have e : (bestP (UR rs) n k (i + 1)) = roundS (EN (UR rs)) n k s := by rw [bestP_succ hil, hsv]; exact tryP_take hpos (.inr (less_shorter (by have h : ((roundS (EN (UR rs)) n k s).length : Int) < (bestP (UR rs) n k i).length := g11_47; omega)))
              have ho2 : OSl 3 1 (.slice ca (bestP (UR rs) n k (i + 1)).length cc) (bestP (UR rs) n k (i + 1)).length (nats (bestP (UR rs) n k (i + 1))) cg := by rw [e]; exact hcs
              refine TQ.hsub (cg :: [(c5, .cells #[fnV 61] 72 (0, 0))] :: [(c4, .cells #[.int .i64 (k : Int)] 3 (0, 0))] :: [(c3, .cells #[ptr bw] 59 (0, 0))] :: [(b9, .cells #[.int .i64 (k : Int)] 3 (0, 0))] :: [(b7, .cells #[.slice ca (roundS (EN (UR rs)) n k s).length cc] 23 (0, 0))] :: [(b8, .cells #[.func (.func 34) #[ptr bw] #[]] 66 (0, 0))] :: wseg bw bm n :: [(bm, .map es clock)] :: [(b5, .cells #[.int .i64 0] 27 (0, 0))] :: (marksH ms ++ η) ++ tl') (List.Sublist.cons_cons _ (List.Sublist.cons_cons _ (List.Sublist.cons_cons _ (List.Sublist.cons_cons _ (List.Sublist.cons_cons _ (List.sublist_cons_self _ _)))))) ?_
              refine TQ.hperm ([(c5, .cells #[fnV 61] 72 (0, 0))] :: [(c4, .cells #[.int .i64 (k : Int)] 3 (0, 0))] :: [(c3, .cells #[ptr bw] 59 (0, 0))] :: [(b9, .cells #[.int .i64 (k : Int)] 3 (0, 0))] :: cg :: [(b7, .cells #[.slice ca (roundS (EN (UR rs)) n k s).length cc] 23 (0, 0))] :: [(b8, .cells #[.func (.func 34) #[ptr bw] #[]] 66 (0, 0))] :: wseg bw bm n :: [(bm, .map es clock)] :: [(b5, .cells #[.int .i64 0] 27 (0, 0))] :: (marksH ms ++ η) ++ tl') (List.perm_middle (l₁ := [_, _, _, _])) ?_
              exact TQ.rq_n ([(c5, .cells #[fnV 61] 72 (0, 0))] :: [(c4, .cells #[.int .i64 (k : Int)] 3 (0, 0))] :: [(c3, .cells #[ptr bw] 59 (0, 0))] :: [(b9, .cells #[.int .i64 (k : Int)] 3 (0, 0))] :: cg :: [(b7, .cells #[.slice ca (roundS (EN (UR rs)) n k s).length cc] 23 (0, 0))] :: [(b8, .cells #[.func (.func 34) #[ptr bw] #[]] 66 (0, 0))] :: wseg bw bm n :: [(bm, .map es clock)] :: [(b5, .cells #[.int .i64 0] 27 (0, 0))] :: (marksH ms ++ η)) rfl ⟨ca, cc, cg, by rw [e], ho2⟩
            · refine TL.on rfl rfl rfl (decide_eq_false g11_47) ?_
              refine TL.move hF rfl rfl ?_
              refine TL.on rfl rfl rfl (decide_eq_false g11_47) ?_
              refine TL.len hF rfl rfl ?_
              refine TL.on rfl rfl rfl (decide_eq_false g11_47) ?_
              refine TL.load hF rfl (At.own' (i := 6) rfl rfl) rfl ?_
              refine TL.on rfl rfl rfl (decide_eq_false g11_47) ?_
              refine TL.len hF rfl rfl ?_
              refine TL.on rfl rfl rfl (decide_eq_false g11_47) ?_
              refine TL.bin hF rfl rfl rfl rfl ?_
              refine TL.on rfl rfl rfl (decide_eq_false g11_47) ?_
              refine TL.move hF rfl rfl ?_
              refine TL.gd (t := 53) rfl (fun g11_53 => ?_) (fun g11_53 => ?_)
              · refine TL.on rfl rfl rfl (decide_eq_true g11_53) ?_
                refine TL.move hF rfl rfl ?_
                refine TL.on rfl rfl rfl (decide_eq_true g11_53) ?_
                refine TL.load hF rfl (At.own' (i := 6) rfl rfl) rfl ?_
                refine TL.on rfl rfl rfl (decide_eq_true g11_53) ?_
                refine TL.callV hF (CompareN_fn (hcs.row (by simp)) (ho.row (by simp)) (by have := round_len (E := EN (UR rs)) hkn hx2.1; omega)) rfl rfl ?_
                refine TL.on rfl rfl rfl (decide_eq_true g11_53) ?_
                refine TL.bin hF rfl rfl rfl rfl ?_
                refine TL.on rfl rfl rfl (decide_eq_false g11_47) ?_
                refine TL.pickT hF rfl (decide_eq_true g11_53) rfl rfl ?_
                refine TL.on rfl rfl rfl (decide_eq_true g11_36) ?_
                refine TL.pickF hF rfl (decide_eq_false g11_47) rfl rfl ?_
                refine TL.pickT hF rfl (decide_eq_true g11_36) rfl rfl ?_
                refine TL.nil ?_
                refine TQ.then_n ?_
                first | refine T.cond_d rfl (fun ht60 => ?_) (fun ht60 => ?_) | refine T.cond _ rfl (fun ht60 => ?_) (fun ht60 => ?_)
                · refine T.region ?_
                  refine TL.move hF rfl rfl ?_
                  refine TL.storeI hF 6 rfl rfl rfl rfl (by simp) ?_
                  refine TL.nil ?_
                  refine TQ.block_n ?_
                  have hpos : 0 < (roundS (EN (UR rs)) n k s).length := by have h : (0 : Int) < _ := g11_36; omega
                  have e : (bestP (UR rs) n k (i + 1)) = roundS (EN (UR rs)) n k s := by rw [bestP_succ hil, hsv]; exact tryP_take hpos (.inr (by rw [less_same (by have h : ((roundS (EN (UR rs)) n k s).length : Int) = (bestP (UR rs) n k i).length := g11_53; omega)]; exact decide_eq_true ht60))
                  have ho2 : OSl 3 1 (.slice ca (bestP (UR rs) n k (i + 1)).length cc) (bestP (UR rs) n k (i + 1)).length (nats (bestP (UR rs) n k (i + 1))) cg := by rw [e]; exact hcs
                  refine TQ.hsub (cg :: [(c5, .cells #[fnV 61] 72 (0, 0))] :: [(c4, .cells #[.int .i64 (k : Int)] 3 (0, 0))] :: [(c3, .cells #[ptr bw] 59 (0, 0))] :: [(b9, .cells #[.int .i64 (k : Int)] 3 (0, 0))] :: [(b7, .cells #[.slice ca (roundS (EN (UR rs)) n k s).length cc] 23 (0, 0))] :: [(b8, .cells #[.func (.func 34) #[ptr bw] #[]] 66 (0, 0))] :: wseg bw bm n :: [(bm, .map es clock)] :: [(b5, .cells #[.int .i64 0] 27 (0, 0))] :: (marksH ms ++ η) ++ tl') (List.Sublist.cons_cons _ (List.Sublist.cons_cons _ (List.Sublist.cons_cons _ (List.Sublist.cons_cons _ (List.Sublist.cons_cons _ (List.sublist_cons_self _ _)))))) ?_
                  refine TQ.hperm ([(c5, .cells #[fnV 61] 72 (0, 0))] :: [(c4, .cells #[.int .i64 (k : Int)] 3 (0, 0))] :: [(c3, .cells #[ptr bw] 59 (0, 0))] :: [(b9, .cells #[.int .i64 (k : Int)] 3 (0, 0))] :: cg :: [(b7, .cells #[.slice ca (roundS (EN (UR rs)) n k s).length cc] 23 (0, 0))] :: [(b8, .cells #[.func (.func 34) #[ptr bw] #[]] 66 (0, 0))] :: wseg bw bm n :: [(bm, .map es clock)] :: [(b5, .cells #[.int .i64 0] 27 (0, 0))] :: (marksH ms ++ η) ++ tl') (List.perm_middle (l₁ := [_, _, _, _])) ?_
                  exact TQ.rq_n ([(c5, .cells #[fnV 61] 72 (0, 0))] :: [(c4, .cells #[.int .i64 (k : Int)] 3 (0, 0))] :: [(c3, .cells #[ptr bw] 59 (0, 0))] :: [(b9, .cells #[.int .i64 (k : Int)] 3 (0, 0))] :: cg :: [(b7, .cells #[.slice ca (roundS (EN (UR rs)) n k s).length cc] 23 (0, 0))] :: [(b8, .cells #[.func (.func 34) #[ptr bw] #[]] 66 (0, 0))] :: wseg bw bm n :: [(bm, .map es clock)] :: [(b5, .cells #[.int .i64 0] 27 (0, 0))] :: (marksH ms ++ η)) rfl ⟨ca, cc, cg, by rw [e], ho2⟩
                · refine T.skip ?_
                  refine TQ.block_n ?_
                  have e : (bestP (UR rs) n k (i + 1)) = (bestP (UR rs) n k i) := by rw [bestP_succ hil, hsv]; exact tryP_keep (by
                    rintro (h | h)
                    · have h2 : ¬ ((bestP (UR rs) n k i).length : Int) = 0 := g11_40
                      omega
                    · rw [less_same (by have h : ((roundS (EN (UR rs)) n k s).length : Int) = (bestP (UR rs) n k i).length := g11_53; omega)] at h
                      exact ht60 (of_decide_eq_true h))
                  refine TQ.pop ?_
                  exact TQ.rq_n ([(c5, .cells #[fnV 61] 72 (0, 0))] :: [(c4, .cells #[.int .i64 (k : Int)] 3 (0, 0))] :: [(c3, .cells #[ptr bw] 59 (0, 0))] :: [(b9, .cells #[.int .i64 (k : Int)] 3 (0, 0))] :: og :: [(b7, .cells #[.slice oa (bestP (UR rs) n k i).length oc] 23 (0, 0))] :: [(b8, .cells #[.func (.func 34) #[ptr bw] #[]] 66 (0, 0))] :: wseg bw bm n :: [(bm, .map es clock)] :: [(b5, .cells #[.int .i64 0] 27 (0, 0))] :: (marksH ms ++ η)) rfl ⟨oa, oc, og, by rw [e], by rw [e]; exact ho⟩
              · refine TL.off hF rfl rfl rfl (decide_eq_false g11_53) rfl ?_
                refine TL.off hF rfl rfl rfl (decide_eq_false g11_53) rfl ?_
                refine TL.off hF rfl rfl rfl (decide_eq_false g11_53) rfl ?_
                refine TL.off hF rfl rfl rfl (decide_eq_false g11_53) rfl ?_
                refine TL.on rfl rfl rfl (decide_eq_false g11_47) ?_
                refine TL.pickF hF rfl (decide_eq_false g11_53) rfl rfl ?_
                refine TL.on rfl rfl rfl (decide_eq_true g11_36) ?_
                refine TL.pickF hF rfl (decide_eq_false g11_47) rfl rfl ?_
                refine TL.pickT hF rfl (decide_eq_true g11_36) rfl rfl ?_
                refine TL.nil ?_
                refine TQ.then_n ?_
                refine T.cond_f rfl rfl ?_
                refine T.skip ?_
                refine TQ.block_n ?_
                have e : (bestP (UR rs) n k (i + 1)) = (bestP (UR rs) n k i) := by rw [bestP_succ hil, hsv]; exact tryP_keep (by
                  rintro (h | h)
                  · have h2 : ¬ ((bestP (UR rs) n k i).length : Int) = 0 := g11_40
                    omega
                  · have h2 : ¬ ((roundS (EN (UR rs)) n k s).length : Int) < (bestP (UR rs) n k i).length := g11_47
                    have h3 : ¬ ((roundS (EN (UR rs)) n k s).length : Int) = (bestP (UR rs) n k i).length := g11_53
                    rw [less_longer (by omega) (by omega)] at h
                    cases h)
                refine TQ.pop ?_
                exact TQ.rq_n ([(c5, .cells #[fnV 61] 72 (0, 0))] :: [(c4, .cells #[.int .i64 (k : Int)] 3 (0, 0))] :: [(c3, .cells #[ptr bw] 59 (0, 0))] :: [(b9, .cells #[.int .i64 (k : Int)] 3 (0, 0))] :: og :: [(b7, .cells #[.slice oa (bestP (UR rs) n k i).length oc] 23 (0, 0))] :: [(b8, .cells #[.func (.func 34) #[ptr bw] #[]] 66 (0, 0))] :: wseg bw bm n :: [(bm, .map es clock)] :: [(b5, .cells #[.int .i64 0] 27 (0, 0))] :: (marksH ms ++ η)) rfl ⟨oa, oc, og, by rw [e], by rw [e]; exact ho⟩
        · refine TL.off hF rfl rfl rfl (decide_eq_false g11_36) rfl ?_
          refine TL.off hF rfl rfl rfl (decide_eq_false g11_36) rfl ?_
          refine TL.off hF rfl rfl rfl (decide_eq_false g11_36) rfl ?_
          refine TL.off hF rfl rfl rfl (decide_eq_false g11_36) rfl ?_
          refine TL.offU hF rfl rfl rfl rfl ?_
          refine TL.offU hF rfl rfl rfl rfl ?_
          refine TL.offU hF rfl rfl rfl rfl ?_
          refine TL.offU hF rfl rfl rfl rfl ?_
          refine TL.offU hF rfl rfl rfl rfl ?_
          refine TL.off hF rfl rfl rfl (decide_eq_false g11_36) rfl ?_
          refine TL.off hF rfl rfl rfl (decide_eq_false g11_36) rfl ?_
          refine TL.offU hF rfl rfl rfl rfl ?_
          refine TL.offU hF rfl rfl rfl rfl ?_
          refine TL.offU hF rfl rfl rfl rfl ?_
          refine TL.offU hF rfl rfl rfl rfl ?_
          refine TL.offU hF rfl rfl rfl rfl ?_
          refine TL.offU hF rfl rfl rfl rfl ?_
          refine TL.offU hF rfl rfl rfl rfl ?_
          refine TL.offU hF rfl rfl rfl rfl ?_
          refine TL.offU hF rfl rfl rfl rfl ?_
          refine TL.offU hF rfl rfl rfl rfl ?_
          refine TL.offU hF rfl rfl rfl rfl ?_
          refine TL.off hF rfl rfl rfl (decide_eq_false g11_36) rfl ?_
          refine TL.pickF hF rfl (decide_eq_false g11_36) rfl rfl ?_
          refine TL.nil ?_
          refine TQ.then_n ?_
          refine T.cond_f rfl rfl ?_
          refine T.skip ?_
          refine TQ.block_n ?_
          have e : (bestP (UR rs) n k (i + 1)) = (bestP (UR rs) n k i) := by rw [bestP_succ hil, hsv]; exact tryP_none (by have h : ¬ (0 : Int) < _ := g11_36; omega)
          refine TQ.pop ?_
          exact TQ.rq_n ([(c5, .cells #[fnV 61] 72 (0, 0))] :: [(c4, .cells #[.int .i64 (k : Int)] 3 (0, 0))] :: [(c3, .cells #[ptr bw] 59 (0, 0))] :: [(b9, .cells #[.int .i64 (k : Int)] 3 (0, 0))] :: og :: [(b7, .cells #[.slice oa (bestP (UR rs) n k i).length oc] 23 (0, 0))] :: [(b8, .cells #[.func (.func 34) #[ptr bw] #[]] 66 (0, 0))] :: wseg bw bm n :: [(bm, .map es clock)] :: [(b5, .cells #[.int .i64 0] 27 (0, 0))] :: (marksH ms ++ η)) rfl ⟨oa, oc, og, by rw [e], by rw [e]; exact ho⟩
      · clear ho
        rintro mk _ ⟨oa, oc, og, rfl, ho⟩
        rw [List.length_map, ← succD, bestP_all] at ho
        rw [List.length_map, ← succD, bestP_all]
        refine TQ.block_n ?_
        refine TQ.block_n ?_
        refine TQ.then_n ?_
        refine T.region ?_
        refine TL.add hF rfl rfl (by omega) (by omega) rfl ?_
        refine TL.move hF rfl rfl ?_
        refine TL.nil ?_
        refine TQ.hsub ([(mk, .deferred (some []))] :: og :: [(b7, .cells #[.slice oa (bestS (EN (UR rs)) (DN (UR rs)) n (k + 1)).length oc] 23 (0, 0))] :: [(b8, .cells #[.func (.func 34) #[ptr bw] #[]] 66 (0, 0))] :: wseg bw bm n :: [(bm, .map es clock)] :: [(b5, .cells #[.int .i64 0] 27 (0, 0))] :: (marksH ms ++ η)) (List.Sublist.cons_cons _ (List.Sublist.cons _ (List.Sublist.cons _ (List.Sublist.cons _ (List.sublist_cons_self _ _))))) ?_
        refine TQ.hperm (og :: [(b7, .cells #[.slice oa (bestS (EN (UR rs)) (DN (UR rs)) n (k + 1)).length oc] 23 (0, 0))] :: [(b8, .cells #[.func (.func 34) #[ptr bw] #[]] 66 (0, 0))] :: wseg bw bm n :: [(bm, .map es clock)] :: [(b5, .cells #[.int .i64 0] 27 (0, 0))] :: (marksH (mk :: ms) ++ η)) (List.perm_middle (l₁ := [_, _, _, _, _, _])) ?_
        exact TQ.roundD (k + 1, oa, oc, og, mk :: ms) ⟨by simp only; omega, ho⟩ (by simp only; omega) ⟨rfl, rfl, rfl, rfl, rfl, rfl, rfl, trivial⟩ rfl rfl
      · rintro _ _ _ h; exact h.elim
    · refine T.exit ?_
      refine TQ.then_x ?_
      refine TQ.then_x ?_
      refine TQ.block_x ?_
      refine TQ.then_n ?_
      refine T.seq ?_
      refine T.region ?_
      refine TL.load hF rfl (At.own' (i := 1) rfl rfl) rfl ?_
      refine TL.len hF rfl rfl ?_
      refine TL.bin hF rfl rfl rfl rfl ?_
      refine TL.callE hF (must_fn _ 4) rfl rfl ?_ ?_
      · rintro _ _ ⟨hpos, rfl⟩
        refine TL.nil ?_
        refine TQ.then_n ?_
        refine T.seq ?_
        refine T.region ?_
        refine TL.load hF rfl (At.own' (i := 1) rfl rfl) rfl ?_
        refine TL.assign hF rfl rfl ?_
        refine TL.storeI hF 5 rfl rfl rfl rfl (by simp) ?_
        refine TL.nil ?_
        refine TQ.then_n ?_
        refine T.ret ?_
        have hkn : k = n := by have h : ¬ (k : Int) < n := ht20; omega
        subst hkn
        refine TQ.hsub (og :: [(b5, .cells #[.int .i64 0] 27 (0, 0))] :: (marksH ms ++ η)) (List.Sublist.cons_cons _ (List.Sublist.cons _ (List.Sublist.cons _ (List.Sublist.cons _ (List.sublist_cons_self _ _))))) ?_
        refine TQ.hperm (marksH ms ++ og :: [(b5, .cells #[.int .i64 0] 27 (0, 0))] :: η) ((List.perm_middle (l₁ := marksH ms)).trans ((List.perm_middle (l₁ := marksH ms)).cons _)) ?_
        refine TQ.marks (.inl rfl) ?_ ms
        refine TQ.retL [4] _ stop33 (stopped_nil _) rfl rfl rfl (own_mem (cs := #[.int .i64 0]) (e := 27) (fz := (0, 0)) (by simp) rfl) ?_
        have h0 : ¬ (bestS (EU rs) (ED rs) k k).length = 0 := by have h : (0 : Int) < ((bestS (EN (UR rs)) (DN (UR rs)) k k).length : Int) := of_decide_eq_true hpos; show ¬ (bestS (EN (UR rs)) (DN (UR rs)) k k).length = 0; omega
        have e : reasonS k rs = (bestS (EN (UR rs)) (DN (UR rs)) k k, 0) := by unfold reasonS; rw [if_neg (by simpa using hck), Int.toNat_natCast, if_neg h0]
        rw [e]
        exact ⟨oa, oc, [og, [(b5, .cells #[.int .i64 0] 27 (0, 0))]], rfl, rfl, ho.row (by simp)⟩
      · rintro _ _ ⟨hpos, rfl, rfl⟩
        refine TQ.then_p ?_
        have hkn : k = n := by have h : ¬ (k : Int) < n := ht20; omega
        subst hkn
        refine TQ.hsub ([(b5, .cells #[.int .i64 0] 27 (0, 0))] :: (marksH ms ++ η)) (List.Sublist.cons _ (List.Sublist.cons _ (List.Sublist.cons _ (List.Sublist.cons _ (List.sublist_cons_self _ _))))) ?_
        refine TQ.hperm (marksH ms ++ [(b5, .cells #[.int .i64 0] 27 (0, 0))] :: η) List.perm_middle ?_
        refine TQ.marks (.inr ⟨_, rfl⟩) ?_ ms
        refine TQ.panL [4] [.slice none 0 0] stop33 (stopped_err 4) rfl rfl rfl (At.own' (i := 0) rfl rfl) ?_
        have h0 : (bestS (EU rs) (ED rs) k k).length = 0 := by have h : ¬ (0 : Int) < ((bestS (EN (UR rs)) (DN (UR rs)) k k).length : Int) := of_decide_eq_false hpos; show (bestS (EN (UR rs)) (DN (UR rs)) k k).length = 0; omega
        have e : reasonS k rs = ([], 4) := by unfold reasonS; rw [if_neg (by simpa using hck), Int.toNat_natCast, if_pos h0]
        rw [e]
        exact ⟨none, 0, [[(b5, .cells #[.int .i64 4] 27 (0, 0))]], rfl, rfl, ⟨fun h => by simp at h, fun i v h => by simp [nats] at h⟩⟩
  · rintro _ _ ⟨hck, rfl, rfl⟩
    refine TQ.then_p ?_
    refine TQ.panL [4] [.slice none 0 0] stop33 (stopped_err _) rfl rfl rfl (At.own' (i := 0) rfl rfl) ?_
    have e : reasonS rels rs = ([], check rels rs) := by unfold reasonS; rw [if_pos hck]
    rw [e]
    exact ⟨none, 0, [[(b5, .cells #[.int .i64 (check rels rs)] 27 (0, 0))]], rfl, rfl, ⟨fun h => by simp at h, fun i v h => by simp [nats] at h⟩⟩
end Go.Proofs.Ytdehpaikapbckaa
