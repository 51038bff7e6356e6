/- Several texts in one. -/
import Derived.Test.YtefkmiomldhmjaaDoorQd
import Derived.Test.YtefkmiomldhmjaaDoorRows
import Derived.LaidMore
import Derived.OpenShut
import Derived.Deep.Strs
import Derived.Stop.Joined
import Derived.Test.YtefkmiomldhmjaaDoorQb
import Derived.Test.YtefkmiomldhmjaaDoorQc
/- Which nodes are wanted, by the reference. -/
namespace Go.Proofs.YtefkmiomldhmjaaDoor
open Go.Sl
variable {S : Nat → Prop} {w0 : World} {η : Heap}
theorem Reach.last {l : List NodeD} {a b : Nat} (h : Reach l a b) : b = a ∨ ∃ p, Reach l a p ∧ ∃ f ∈ (nd l p).fr, f.toNat = b := by
  induction h with
  | refl => exact .inl rfl
  | step f hf t ih =>
    rename_i r i
    rcases ih with h | ⟨p, h1, h2⟩
    · exact .inr ⟨r, .refl _, f, hf, h.symm⟩
    · exact .inr ⟨p, .step f hf h1, h2⟩
def QP (l : List NodeD) (asks : List Int) (t : Nat) : Prop := ∃ r, r < l.length ∧ isRoot l asks r = true ∧ Reach l r t
theorem QP.iff {l : List NodeD} {asks : List Int} (hok : Ok l) {t : Nat} (ht : t < l.length) : QP l asks t ↔ isRoot l asks t = true ∨ ∃ p, t < p ∧ p < l.length ∧ QP l asks p ∧ (t : Int) ∈ (nd l p).fr := by
  constructor
  · rintro ⟨r, hr, h1, h2⟩
    rcases h2.last with h | ⟨p, h3, f, hf, hft⟩
    · subst h; exact .inl h1
    · have hp : p < l.length := by have := h3.le hok hr; omega
      have hf2 := hf
      rw [nd_eq hp] at hf2
      have := hok.fr p hp f hf2
      refine .inr ⟨p, by omega, hp, ⟨r, hr, h1, h3⟩, ?_⟩
      rw [← hft, Int.toNat_of_nonneg this.1]; exact hf
  · rintro (h | ⟨p, _, hp, ⟨r, hr, h1, h2⟩, hf⟩)
    · exact ⟨t, ht, h, .refl _⟩
    · exact ⟨r, hr, h1, h2.trans (.step _ hf (by rw [Int.toNat_natCast]; exact .refl _))⟩
def Swp (l : List NodeD) (asks : List Int) (q : Nat) (o : Nat → Bool) : Prop := ∀ t, t < l.length → (o t = true ↔ (q ≤ t ∧ QP l asks t) ∨ (t < q ∧ ∃ p, q ≤ p ∧ p < l.length ∧ QP l asks p ∧ (t : Int) ∈ (nd l p).fr))
theorem Swp.start (l : List NodeD) (asks : List Int) : Swp l asks l.length fun _ => false := fun t ht => by
  constructor
  · intro h; cases h
  · rintro (⟨h, _⟩ | ⟨_, p, h1, h2, _⟩) <;> omega
/-- What a node's own round makes. -/
def ownB (l : List NodeD) (asks : List Int) (k : Nat) (o : Nat → Bool) : Bool := o k || isRoot l asks k
theorem Swp.own {l : List NodeD} {asks : List Int} (hok : Ok l) {k : Nat} {o : Nat → Bool} (h : Swp l asks (k + 1) o) (hk : k < l.length) : ownB l asks k o = true ↔ QP l asks k := by
  unfold ownB
  rw [Bool.or_eq_true, h k hk, QP.iff hok hk]
  constructor
  · rintro ((⟨h1, _⟩ | ⟨_, p, h1, h2⟩) | h1)
    · omega
    · exact .inr ⟨p, by omega, h2⟩
    · exact .inl h1
  · rintro (h1 | ⟨p, h1, h2⟩)
    · exact .inr h1
    · exact .inl (.inr ⟨by omega, p, by omega, h2⟩)
def spread (l : List NodeD) (k j : Nat) (o : Nat → Bool) (b : Bool) (t : Nat) : Bool := if t = k then b else o t || (b && decide ((t : Int) ∈ (nd l k).fr.take j))
theorem Swp.step {l : List NodeD} {asks : List Int} (hok : Ok l) {k : Nat} {o : Nat → Bool} (h : Swp l asks (k + 1) o) (hk : k < l.length) {j : Nat} (hj : ownB l asks k o = true → (nd l k).fr.length ≤ j) : Swp l asks k (spread l k j o (ownB l asks k o)) := by
  intro t ht
  have ho := h.own hok hk
  unfold spread
  by_cases hb : ownB l asks k o = true
  · have hQ := ho.1 hb
    rw [hb]
    by_cases e : t = k
    · subst e; rw [if_pos rfl]; simp [hQ]
    · rw [if_neg e, Bool.or_eq_true, Bool.true_and, decide_eq_true_eq, List.take_of_length_le (hj hb), h t ht]
      constructor
      · rintro ((⟨h1, h2⟩ | ⟨h1, p, h2, h3⟩) | h1)
        · exact .inl ⟨by omega, h2⟩
        · exact .inr ⟨by omega, p, by omega, h3⟩
        · have hf := h1
          rw [nd_eq hk] at hf
          have := hok.fr k hk _ hf
          exact .inr ⟨by omega, k, Nat.le_refl _, hk, hQ, h1⟩
      · rintro (⟨h1, h2⟩ | ⟨h1, p, h2, h3, h4, h5⟩)
        · exact .inl (.inl ⟨by omega, h2⟩)
        · by_cases e2 : p = k
          · subst e2; exact .inr h5
          · exact .inl (.inr ⟨by omega, p, by omega, h3, h4, h5⟩)
  · have hQ : ¬ QP l asks k := fun hq => hb (ho.2 hq)
    have hb' : ownB l asks k o = false := by simpa using hb
    rw [hb']
    by_cases e : t = k
    · subst e; rw [if_pos rfl]; simp [hQ]
    · rw [if_neg e, Bool.false_and, Bool.or_false, h t ht]
      constructor
      · rintro (⟨h1, h2⟩ | ⟨h1, p, h2, h3⟩)
        · exact .inl ⟨by omega, h2⟩
        · exact .inr ⟨by omega, p, by omega, h3⟩
      · rintro (⟨h1, h2⟩ | ⟨h1, p, h2, h3, h4, h5⟩)
        · exact .inl ⟨by omega, h2⟩
        · by_cases e2 : p = k
          · subst e2; exact absurd h4 hQ
          · exact .inr ⟨by omega, p, by omega, h3, h4, h5⟩
theorem Swp.last {l : List NodeD} {asks : List Int} {o : Nat → Bool} (h : Swp l asks 0 o) {t : Nat} (ht : t < l.length) : (o t && decide ((nd l t).op ≠ 0)) = wantS l asks t := by
  rw [Bool.eq_iff_iff, Bool.and_eq_true, h t ht, wantS_iff, decide_eq_true_eq]
  unfold WantP QP
  constructor
  · rintro ⟨⟨_, h1⟩ | ⟨h1, _⟩, h2⟩
    · exact ⟨h2, h1⟩
    · omega
  · rintro ⟨h1, h2⟩; exact ⟨.inl ⟨Nat.zero_le _, h2⟩, h1⟩

set_option maxHeartbeats 2000000 in
theorem Wanted_ref {a : Option Addr} {l : List NodeD} {c : Nat} {x : InstD} (hn : Nodes S w0 [] a l) (hok : Ok l) (ha : Row S w0 [] x.aa (ints x.asks)) (hal : x.asks.length ≤ 10) :
    Rt Tryd.prog 31 [.slice a l.length c, .agg x.cells.toArray].toArray S w0 η (fun v η' => ∃ b, v = .slice (some ⟨b, 0, none⟩) l.length l.length ∧ η' = bseg b l.length (wantS l x.asks) :: η) := by
  have hF := open_wide
  refine Rt.of (fn := Tryd.f31) Tryd.func31 rfl rfl ?_
  refine T.seq ?_
  refine T.region ?_
  refine TL.box hF rfl rfl (fun b3 => ?_)
  refine TL.assign hF rfl rfl ?_
  refine TL.nil ?_
  refine TQ.then_n ?_
  refine T.seq ?_
  refine T.region ?_
  refine TL.move hF rfl rfl ?_
  refine TL.len hF rfl rfl ?_
  have hlen := hok.len
  have hpos := hok.pos
  refine TL.makeSlice hF rfl rfl rfl (by omega) (by omega) rfl (fun b12 => ?_)
  rw [rowC_false]
  refine TL.assign hF rfl rfl ?_
  refine TL.nil ?_
  refine TQ.then_n ?_
  refine T.seq ?_
  refine T.seq ?_
  refine T.region ?_
  refine TL.move hF rfl rfl ?_
  refine TL.len hF rfl rfl ?_
  refine TL.sub hF rfl rfl (by omega) (by omega) rfl ?_
  refine TL.assign hF rfl rfl ?_
  refine TL.nil ?_
  refine TQ.then_n ?_
  refine T.block ?_
  refine T.loop (ι := Nat × (Nat → Bool)) (fun i => i.1 ≤ l.length ∧ Swp l x.asks i.1 i.2) (fun i => [(0, .slice a l.length c), (3, ptr b3), (4, .slice none 0 0), (5, .slice (some ⟨b12, 0, none⟩) l.length l.length), (6, .int .i64 ((i.1 : Int) - 1))]) (fun i => bseg b12 l.length (i.2) :: [(b3, Obj.cells x.cells.toArray 50 (0, 0))] :: η) (fun i => i.1) (l.length, fun _ => false) ⟨Nat.le_refl _, Swp.start l x.asks⟩ ⟨rfl, rfl, rfl, rfl, rfl, trivial⟩ rfl ?_
  rintro ⟨k1, o⟩ ⟨hk1, hsw⟩
  simp only at hk1 hsw
  refine T.seq ?_
  refine T.seq ?_
  refine T.region ?_
  refine TL.move hF rfl rfl ?_
  refine TL.bin hF rfl rfl rfl rfl ?_
  refine TL.nil ?_
  refine TQ.then_n ?_
  first | refine T.cond_d rfl (fun ht17 => ?_) (fun ht17 => ?_) | refine T.cond _ rfl (fun ht17 => ?_) (fun ht17 => ?_)
  · refine T.skip ?_
    refine TQ.then_n ?_
    refine T.seq ?_
    refine T.block ?_
    obtain ⟨k, rfl⟩ : ∃ k, k1 = k + 1 := ⟨k1 - 1, by omega⟩
    have ek : (((k + 1 : Nat) : Int) - 1) = (k : Int) := by omega
    have hkl : k < l.length := by omega
    have hrow := hn.frow hkl
    have hfr := hok.fr k hkl
    have hfew := hok.few k hkl
    rw [← nd_eq hkl] at hrow hfr hfew
    rw [ek]
    refine T.cut (ι := Unit) (fun _ => True) (fun _ => [(0, .slice a l.length c), (3, ptr b3), (4, .slice none 0 0), (5, .slice (some ⟨b12, 0, none⟩) l.length l.length), (6, .int .i64 (k : Int))]) (fun _ => bseg b12 l.length (upd o k (o k || (nd l k).eager)) :: [(b3, Obj.cells x.cells.toArray 50 (0, 0))] :: η) ?_ ?_
    · refine T.region ?_
      refine TL.move hF rfl rfl ?_
      refine TL.move hF rfl rfl ?_
      refine TL.move hF rfl rfl ?_
      refine TL.move hF rfl rfl ?_
      refine TL.indexAddr hF rfl rfl ⟨_, rfl, rfl⟩ (by omega) (by omega) rfl ?_
      refine TL.load hF rfl (bseg_at (f := o) (n := l.length) (b := b12) (j := k) List.mem_cons_self hkl) rfl ?_
      refine TL.move hF rfl rfl ?_
      refine TL.gb (t := 26) rfl (fun g5_26 => ?_) (fun g5_26 => ?_)
      · refine TL.off hF rfl rfl rfl g5_26 rfl ?_
        refine TL.off hF rfl rfl rfl g5_26 rfl ?_
        refine TL.off hF rfl rfl rfl g5_26 rfl ?_
        refine TL.off hF rfl rfl rfl g5_26 rfl ?_
        refine TL.off hF rfl rfl rfl g5_26 rfl ?_
        refine TL.pickT hF rfl g5_26 rfl rfl ?_
        refine TL.indexAddr hF rfl rfl ⟨_, rfl, rfl⟩ (by omega) (by omega) rfl ?_
        refine TL.storeI hF 0 rfl rfl rfl rfl (by simp [rowC_len]; omega) ?_
        refine TL.nil ?_
        exact TQ.cut () trivial ⟨rfl, rfl, rfl, rfl, rfl, trivial⟩ (bseg_set (j := k) (by simp) (fun i _ => by unfold upd; split <;> simp_all))
      · refine TL.on rfl rfl rfl g5_26 ?_
        refine TL.move hF rfl rfl ?_
        refine TL.on rfl rfl rfl g5_26 ?_
        refine TL.move hF rfl rfl ?_
        refine TL.on rfl rfl rfl g5_26 ?_
        refine TL.indexAddr hF rfl rfl (hn.ad (i := k) hkl) (by omega) (by omega) rfl ?_
        refine TL.on rfl rfl rfl g5_26 ?_
        refine TL.fieldAddr hF rfl rfl ?_
        refine TL.on rfl rfl rfl g5_26 ?_
        refine TL.load hF rfl (v := .bool (nd l k).eager) (by rw [nd_eq hkl]; exact hn.ro.at (i := k) hkl 3 rfl) rfl ?_
        refine TL.pickF hF rfl g5_26 rfl rfl ?_
        refine TL.indexAddr hF rfl rfl ⟨_, rfl, rfl⟩ (by omega) (by omega) rfl ?_
        refine TL.storeI hF 0 rfl rfl rfl rfl (by simp [rowC_len]; omega) ?_
        refine TL.nil ?_
        exact TQ.cut () trivial ⟨rfl, rfl, rfl, rfl, rfl, trivial⟩ (bseg_set (j := k) (by simp) (fun i _ => by unfold upd; split <;> simp_all))
    · intro _ _
      refine T.seq ?_
      refine T.seq ?_
      refine T.region ?_
      refine TL.assign hF rfl rfl ?_
      refine TL.nil ?_
      refine TQ.then_n ?_
      refine T.block ?_
      refine T.loop (ι := Nat) (fun j => j ≤ x.asks.length) (fun j => [(0, .slice a l.length c), (3, ptr b3), (4, .slice none 0 0), (5, .slice (some ⟨b12, 0, none⟩) l.length l.length), (6, .int .i64 (k : Int)), (7, .int .i64 (j : Int))]) (fun j => bseg b12 l.length (upd o k (o k || (nd l k).eager || decide ((k : Int) ∈ x.asks.take j))) :: [(b3, Obj.cells x.cells.toArray 50 (0, 0))] :: η) (fun j => x.asks.length - j) 0 (Nat.zero_le _) ⟨rfl, rfl, rfl, rfl, rfl, rfl, trivial⟩ (by simp) ?_
      intro j hj
      refine T.seq ?_
      refine T.seq ?_
      refine T.region ?_
      refine TL.move hF rfl rfl ?_
      refine TL.fieldAddr hF rfl rfl ?_
      refine TL.load hF rfl (by first | exact At.own' (i := 0) rfl rfl | exact At.own' (i := 1) rfl rfl | exact At.own' (i := 2) rfl rfl | exact At.own' (i := 3) rfl rfl | exact At.own' (i := 4) rfl rfl | exact At.own' (i := 5) rfl rfl | exact At.own' (i := 6) rfl rfl | exact At.own' (i := 7) rfl rfl | exact At.own' (i := 8) rfl rfl | exact At.own' (i := 9) rfl rfl | exact At.own' (i := 10) rfl rfl | exact At.own' (i := 11) rfl rfl | exact At.own' (i := 12) rfl rfl) rfl ?_
      refine TL.len hF rfl rfl ?_
      refine TL.bin hF rfl rfl rfl rfl ?_
      refine TL.nil ?_
      refine TQ.then_n ?_
      first | refine T.cond_d rfl (fun ht38 => ?_) (fun ht38 => ?_) | refine T.cond _ rfl (fun ht38 => ?_) (fun ht38 => ?_)
      · refine T.skip ?_
        refine TQ.then_n ?_
        refine T.seq ?_
        refine T.block ?_
        refine T.region ?_
        refine TL.move hF rfl rfl ?_
        refine TL.move hF rfl rfl ?_
        refine TL.move hF rfl rfl ?_
        refine TL.move hF rfl rfl ?_
        refine TL.indexAddr hF rfl rfl ⟨_, rfl, rfl⟩ (by omega) (by omega) rfl ?_
        refine TL.load hF rfl (bseg_at (f := upd o k (o k || (nd l k).eager || decide ((k : Int) ∈ x.asks.take j))) (n := l.length) (b := b12) (j := k) List.mem_cons_self hkl) rfl ?_
        refine TL.move hF rfl rfl ?_
        refine TL.gb (t := 47) rfl (fun g9_47 => ?_) (fun g9_47 => ?_)
        · refine TL.off hF rfl rfl rfl g9_47 rfl ?_
          refine TL.off hF rfl rfl rfl g9_47 rfl ?_
          refine TL.off hF rfl rfl rfl g9_47 rfl ?_
          refine TL.off hF rfl rfl rfl g9_47 rfl ?_
          refine TL.off hF rfl rfl rfl g9_47 rfl ?_
          refine TL.off hF rfl rfl rfl g9_47 rfl ?_
          refine TL.off hF rfl rfl rfl g9_47 rfl ?_
          refine TL.pickT hF rfl g9_47 rfl rfl ?_
          refine TL.indexAddr hF rfl rfl ⟨_, rfl, rfl⟩ (by omega) (by omega) rfl ?_
          refine TL.storeI hF 0 rfl rfl rfl rfl (by simp [rowC_len]; omega) ?_
          refine TL.nil ?_
          refine TQ.block_n ?_
          refine TQ.then_n ?_
          refine T.region ?_
          refine TL.move hF rfl rfl ?_
          refine TL.add hF rfl rfl (by omega) (by omega) rfl ?_
          refine TL.assign hF rfl rfl ?_
          refine TL.nil ?_
          rw [upd_same] at g9_47
          refine TQ.round (j + 1) (by omega) (by omega) ⟨rfl, rfl, rfl, rfl, rfl, rfl, trivial⟩ (bseg_set (j := k) (by simp) (fun i _ => ?_))
          by_cases e : i = k
          · subst e
            rw [if_pos rfl, upd_same, List.take_succ_eq_append_getElem (by omega)]
            rw [Bool.or_eq_true] at g9_47
            rcases g9_47 with h | h
            · rw [h]; rfl
            · rw [decide_eq_true (List.mem_append_left _ (of_decide_eq_true h)), Bool.or_true]
          · rw [if_neg e, upd_ne _ _ e, upd_ne _ _ e]
        · refine TL.on rfl rfl rfl g9_47 ?_
          refine TL.fieldAddr hF rfl rfl ?_
          refine TL.on rfl rfl rfl g9_47 ?_
          refine TL.load hF rfl (by first | exact At.own' (i := 0) rfl rfl | exact At.own' (i := 1) rfl rfl | exact At.own' (i := 2) rfl rfl | exact At.own' (i := 3) rfl rfl | exact At.own' (i := 4) rfl rfl | exact At.own' (i := 5) rfl rfl | exact At.own' (i := 6) rfl rfl | exact At.own' (i := 7) rfl rfl | exact At.own' (i := 8) rfl rfl | exact At.own' (i := 9) rfl rfl | exact At.own' (i := 10) rfl rfl | exact At.own' (i := 11) rfl rfl | exact At.own' (i := 12) rfl rfl) rfl ?_
          refine TL.on rfl rfl rfl g9_47 ?_
          refine TL.move hF rfl rfl ?_
          refine TL.on rfl rfl rfl g9_47 ?_
          refine TL.indexAddr hF rfl rfl (ha.adi (i := j) (by rw [List.length_map]; omega)) (by omega) (by omega) rfl ?_
          refine TL.on rfl rfl rfl g9_47 ?_
          refine TL.load hF rfl (ha.ro.int (i := j) (by omega)) rfl ?_
          refine TL.on rfl rfl rfl g9_47 ?_
          refine TL.move hF rfl rfl ?_
          refine TL.on rfl rfl rfl g9_47 ?_
          refine TL.bin hF rfl rfl rfl rfl ?_
          refine TL.pickF hF rfl g9_47 rfl rfl ?_
          refine TL.indexAddr hF rfl rfl ⟨_, rfl, rfl⟩ (by omega) (by omega) rfl ?_
          refine TL.storeI hF 0 rfl rfl rfl rfl (by simp [rowC_len]; omega) ?_
          refine TL.nil ?_
          refine TQ.block_n ?_
          refine TQ.then_n ?_
          refine T.region ?_
          refine TL.move hF rfl rfl ?_
          refine TL.add hF rfl rfl (by omega) (by omega) rfl ?_
          refine TL.assign hF rfl rfl ?_
          refine TL.nil ?_
          rw [upd_same] at g9_47
          refine TQ.round (j + 1) (by omega) (by omega) ⟨rfl, rfl, rfl, rfl, rfl, rfl, trivial⟩ (bseg_set (j := k) (by simp) (fun i _ => ?_))
          by_cases e : i = k
          · subst e
            rw [if_pos rfl, upd_same, List.take_succ_eq_append_getElem (by omega)]
            rw [Bool.or_eq_false_iff] at g9_47
            rw [g9_47.1, Bool.false_or]
            have h2 := of_decide_eq_false g9_47.2
            rw [decide_eq_decide, List.mem_append, List.mem_singleton]
            constructor
            · rintro (h | h)
              · exact absurd h h2
              · exact h.symm
            · intro h; exact .inr h.symm
          · rw [if_neg e, upd_ne _ _ e, upd_ne _ _ e]
      · refine T.exit ?_
        refine TQ.then_x ?_
        refine TQ.then_x ?_
        refine TQ.block_x ?_
        refine TQ.then_n ?_
        refine T.seq ?_
        refine T.region ?_
        refine TL.assign hF rfl rfl ?_
        refine TL.nil ?_
        refine TQ.then_n ?_
        refine T.block ?_
        have hjx : x.asks.take j = x.asks := List.take_of_length_le (by omega)
        have hbo : (o k || (nd l k).eager || decide ((k : Int) ∈ x.asks.take j)) = ownB l x.asks k o := by rw [hjx]; unfold ownB isRoot; rw [Bool.or_assoc]
        rw [hbo]
        refine T.loop (ι := Nat) (fun j => j ≤ (nd l k).fr.length) (fun j => [(0, .slice a l.length c), (3, ptr b3), (4, .slice none 0 0), (5, .slice (some ⟨b12, 0, none⟩) l.length l.length), (6, .int .i64 (k : Int)), (8, .int .i64 (j : Int))]) (fun j => bseg b12 l.length (spread l k j o (ownB l x.asks k o)) :: [(b3, Obj.cells x.cells.toArray 50 (0, 0))] :: η) (fun j => (nd l k).fr.length - j) 0 (Nat.zero_le _) ⟨rfl, rfl, rfl, rfl, rfl, rfl, trivial⟩ (bseg_congr (fun i _ => by unfold upd spread; split <;> simp)) ?_
        clear hj ht38 hjx hbo j
        intro j hj
        have hsk : spread l k j o (ownB l x.asks k o) k = ownB l x.asks k o := by unfold spread; rw [if_pos rfl]
        refine T.seq ?_
        refine T.seq ?_
        refine T.region ?_
        refine TL.move hF rfl rfl ?_
        refine TL.move hF rfl rfl ?_
        refine TL.move hF rfl rfl ?_
        refine TL.indexAddr hF rfl rfl (hn.ad (i := k) hkl) (by omega) (by omega) rfl ?_
        refine TL.fieldAddr hF rfl rfl ?_
        refine TL.load hF rfl (v := .slice (nd l k).fa (nd l k).fr.length (nd l k).fc) (by rw [nd_eq hkl]; exact hn.ro.at (i := k) hkl 2 rfl) rfl ?_
        refine TL.len hF rfl rfl ?_
        refine TL.bin hF rfl rfl rfl rfl ?_
        refine TL.move hF rfl rfl ?_
        refine TL.gd (t := 65) rfl (fun g11_65 => ?_) (fun g11_65 => ?_)
        · refine TL.on rfl rfl rfl (decide_eq_true g11_65) ?_
          refine TL.move hF rfl rfl ?_
          refine TL.on rfl rfl rfl (decide_eq_true g11_65) ?_
          refine TL.move hF rfl rfl ?_
          refine TL.on rfl rfl rfl (decide_eq_true g11_65) ?_
          refine TL.indexAddr hF rfl rfl ⟨_, rfl, rfl⟩ (by omega) (by omega) rfl ?_
          refine TL.on rfl rfl rfl (decide_eq_true g11_65) ?_
          refine TL.load hF rfl (bseg_at (f := spread l k j o (ownB l x.asks k o)) (n := l.length) (b := b12) (j := k) List.mem_cons_self hkl) rfl ?_
          refine TL.pickT hF rfl (decide_eq_true g11_65) rfl rfl ?_
          refine TL.nil ?_
          refine TQ.then_n ?_
          refine T.cond _ rfl (fun hb70 => ?_) (fun hb70 => ?_)
          all_goals rw [hsk] at hb70
          · refine T.skip ?_
            refine TQ.then_n ?_
            refine T.seq ?_
            refine T.block ?_
            refine T.region ?_
            refine TL.move hF rfl rfl ?_
            refine TL.move hF rfl rfl ?_
            refine TL.move hF rfl rfl ?_
            refine TL.indexAddr hF rfl rfl (hn.ad (i := k) hkl) (by omega) (by omega) rfl ?_
            refine TL.fieldAddr hF rfl rfl ?_
            refine TL.load hF rfl (v := .slice (nd l k).fa (nd l k).fr.length (nd l k).fc) (by rw [nd_eq hkl]; exact hn.ro.at (i := k) hkl 2 rfl) rfl ?_
            refine TL.move hF rfl rfl ?_
            refine TL.indexAddr hF rfl rfl (hrow.adi (i := j) (by rw [List.length_map]; omega)) (by omega) (by omega) rfl ?_
            refine TL.load hF rfl (hrow.ro.int (i := j) (by omega)) rfl ?_
            have hjl : j < (nd l k).fr.length := by omega
            have hf := hfr ((nd l k).fr[j]'hjl) (List.getElem_mem _)
            refine TL.indexAddr hF rfl rfl ⟨_, rfl, rfl⟩ (by omega) (by omega) rfl ?_
            refine TL.storeI hF 0 rfl rfl rfl rfl (by simp [rowC_len]; omega) ?_
            refine TL.nil ?_
            refine TQ.block_n ?_
            refine TQ.then_n ?_
            refine T.region ?_
            refine TL.move hF rfl rfl ?_
            refine TL.add hF rfl rfl (by omega) (by omega) rfl ?_
            refine TL.assign hF rfl rfl ?_
            refine TL.nil ?_
            refine TQ.round (j + 1) (by omega) (by omega) ⟨rfl, rfl, rfl, rfl, rfl, rfl, trivial⟩ (bseg_set (j := ((nd l k).fr[j]'hjl).toNat) (by simp) (fun i _ => ?_))
            have hfe : (((nd l k).fr[j]'hjl).toNat : Int) = (nd l k).fr[j]'hjl := Int.toNat_of_nonneg hf.1
            unfold spread
            rw [hb70, List.take_succ_eq_append_getElem hjl]
            by_cases e : i = k
            · subst e; rw [if_pos rfl, if_neg (by omega), if_pos rfl]
            · rw [if_neg e, if_neg e]
              by_cases e2 : i = ((nd l k).fr[j]'hjl).toNat
              · rw [if_pos e2, decide_eq_true (List.mem_append_right _ (List.mem_singleton.2 (by omega)))]; simp
              · rw [if_neg e2]
                congr 2
                rw [decide_eq_decide, List.mem_append, List.mem_singleton]
                constructor
                · rintro (h | h)
                  · exact h
                  · omega
                · exact .inl
          · refine T.exit ?_
            refine TQ.then_x ?_
            refine TQ.then_x ?_
            refine TQ.block_x ?_
            refine TQ.block_n ?_
            refine TQ.then_n ?_
            refine T.region ?_
            refine TL.move hF rfl rfl ?_
            refine TL.sub hF rfl rfl (by omega) (by omega) rfl ?_
            refine TL.assign hF rfl rfl ?_
            refine TL.nil ?_
            refine TQ.round (k, spread l k j o (ownB l x.asks k o)) ⟨by simp only; omega, hsw.step hok hkl (fun h => by rw [hb70] at h; cases h)⟩ (by simp only; omega) ⟨rfl, rfl, rfl, rfl, rfl, trivial⟩ rfl
        · refine TL.off hF rfl rfl rfl (decide_eq_false g11_65) rfl ?_
          refine TL.off hF rfl rfl rfl (decide_eq_false g11_65) rfl ?_
          refine TL.off hF rfl rfl rfl (decide_eq_false g11_65) rfl ?_
          refine TL.off hF rfl rfl rfl (decide_eq_false g11_65) rfl ?_
          refine TL.pickF hF rfl (decide_eq_false g11_65) rfl rfl ?_
          refine TL.nil ?_
          refine TQ.then_n ?_
          refine T.cond_f rfl rfl ?_
          refine T.exit ?_
          refine TQ.then_x ?_
          refine TQ.then_x ?_
          refine TQ.block_x ?_
          refine TQ.block_n ?_
          refine TQ.then_n ?_
          refine T.region ?_
          refine TL.move hF rfl rfl ?_
          refine TL.sub hF rfl rfl (by omega) (by omega) rfl ?_
          refine TL.assign hF rfl rfl ?_
          refine TL.nil ?_
          refine TQ.round (k, spread l k j o (ownB l x.asks k o)) ⟨by simp only; omega, hsw.step hok hkl (fun _ => by omega)⟩ (by simp only; omega) ⟨rfl, rfl, rfl, rfl, rfl, trivial⟩ rfl
  · refine T.exit ?_
    refine TQ.then_x ?_
    refine TQ.then_x ?_
    refine TQ.block_x ?_
    refine TQ.then_n ?_
    refine T.seq ?_
    refine T.seq ?_
    refine T.region ?_
    refine TL.assign hF rfl rfl ?_
    refine TL.nil ?_
    refine TQ.then_n ?_
    refine T.block ?_
    have hk0 : k1 = 0 := by omega
    subst hk0
    refine T.loop (ι := Nat) (fun i => i ≤ l.length) (fun i => [(0, .slice a l.length c), (4, .slice none 0 0), (5, .slice (some ⟨b12, 0, none⟩) l.length l.length), (9, .int .i64 (i : Int))]) (fun i => bseg b12 l.length (fun t => if t < i then o t && decide ((nd l t).op ≠ 0) else o t) :: [(b3, Obj.cells x.cells.toArray 50 (0, 0))] :: η) (fun i => l.length - i) 0 (Nat.zero_le _) ⟨rfl, rfl, rfl, rfl, trivial⟩ (bseg_congr (fun t _ => by simp)) ?_
    intro k hk
    refine T.seq ?_
    refine T.seq ?_
    refine T.region ?_
    refine TL.move hF rfl rfl ?_
    refine TL.move hF rfl rfl ?_
    refine TL.len hF rfl rfl ?_
    refine TL.bin hF rfl rfl rfl rfl ?_
    refine TL.nil ?_
    refine TQ.then_n ?_
    first | refine T.cond_d rfl (fun ht86 => ?_) (fun ht86 => ?_) | refine T.cond _ rfl (fun ht86 => ?_) (fun ht86 => ?_)
    · refine T.skip ?_
      refine TQ.then_n ?_
      refine T.seq ?_
      refine T.block ?_
      refine T.region ?_
      refine TL.move hF rfl rfl ?_
      refine TL.move hF rfl rfl ?_
      refine TL.move hF rfl rfl ?_
      refine TL.move hF rfl rfl ?_
      refine TL.indexAddr hF rfl rfl ⟨_, rfl, rfl⟩ (by omega) (by omega) rfl ?_
      refine TL.load hF rfl (bseg_at (f := fun t => if t < k then o t && decide ((nd l t).op ≠ 0) else o t) (n := l.length) (b := b12) (j := k) List.mem_cons_self (by omega)) rfl ?_
      refine TL.move hF rfl rfl ?_
      refine TL.gb (t := 95) rfl (fun g17_95 => ?_) (fun g17_95 => ?_)
      · refine TL.on rfl rfl rfl g17_95 ?_
        refine TL.move hF rfl rfl ?_
        refine TL.on rfl rfl rfl g17_95 ?_
        refine TL.move hF rfl rfl ?_
        refine TL.on rfl rfl rfl g17_95 ?_
        refine TL.indexAddr hF rfl rfl (hn.ad (i := k) (by omega)) (by omega) (by omega) rfl ?_
        refine TL.on rfl rfl rfl g17_95 ?_
        refine TL.fieldAddr hF rfl rfl ?_
        refine TL.on rfl rfl rfl g17_95 ?_
        refine TL.load hF rfl (v := .int .i64 (nd l k).op) (by rw [nd_eq (by omega)]; exact hn.ro.at (i := k) (by omega) 0 rfl) rfl ?_
        refine TL.on rfl rfl rfl g17_95 ?_
        refine TL.bin hF rfl rfl rfl rfl ?_
        refine TL.pickT hF rfl g17_95 rfl rfl ?_
        refine TL.indexAddr hF rfl rfl ⟨_, rfl, rfl⟩ (by omega) (by omega) rfl ?_
        refine TL.storeI hF 0 rfl rfl rfl rfl (by simp [rowC_len]; omega) ?_
        refine TL.nil ?_
        refine TQ.block_n ?_
        refine TQ.then_n ?_
        refine T.region ?_
        refine TL.move hF rfl rfl ?_
        refine TL.add hF rfl rfl (by omega) (by omega) rfl ?_
        refine TL.assign hF rfl rfl ?_
        refine TL.nil ?_
        rw [if_neg (Nat.lt_irrefl k)] at g17_95
        refine TQ.round (k + 1) (by omega) (by omega) ⟨rfl, rfl, rfl, rfl, trivial⟩ (bseg_set (j := k) (by simp) (fun i _ => ?_))
        by_cases e : i = k
        · subst e; rw [if_pos rfl, if_pos (by omega), g17_95, Bool.true_and]
        · rw [if_neg e]
          by_cases h : i < k
          · rw [if_pos h, if_pos (by omega)]
          · rw [if_neg h, if_neg (by omega)]
      · refine TL.off hF rfl rfl rfl g17_95 rfl ?_
        refine TL.off hF rfl rfl rfl g17_95 rfl ?_
        refine TL.off hF rfl rfl rfl g17_95 rfl ?_
        refine TL.off hF rfl rfl rfl g17_95 rfl ?_
        refine TL.off hF rfl rfl rfl g17_95 rfl ?_
        refine TL.off hF rfl rfl rfl g17_95 rfl ?_
        refine TL.pickF hF rfl g17_95 rfl rfl ?_
        refine TL.indexAddr hF rfl rfl ⟨_, rfl, rfl⟩ (by omega) (by omega) rfl ?_
        refine TL.storeI hF 0 rfl rfl rfl rfl (by simp [rowC_len]; omega) ?_
        refine TL.nil ?_
        refine TQ.block_n ?_
        refine TQ.then_n ?_
        refine T.region ?_
        refine TL.move hF rfl rfl ?_
        refine TL.add hF rfl rfl (by omega) (by omega) rfl ?_
        refine TL.assign hF rfl rfl ?_
        refine TL.nil ?_
        rw [if_neg (Nat.lt_irrefl k)] at g17_95
        refine TQ.round (k + 1) (by omega) (by omega) ⟨rfl, rfl, rfl, rfl, trivial⟩ (bseg_set (j := k) (by simp) (fun i _ => ?_))
        by_cases e : i = k
        · subst e; rw [if_pos rfl, if_pos (by omega), g17_95, Bool.false_and]
        · rw [if_neg e]
          by_cases h : i < k
          · rw [if_pos h, if_pos (by omega)]
          · rw [if_neg h, if_neg (by omega)]
    · refine T.exit ?_
      refine TQ.then_x ?_
      refine TQ.then_x ?_
      refine TQ.block_x ?_
      refine TQ.then_n ?_
      refine T.seq ?_
      refine T.region ?_
      refine TL.move hF rfl rfl ?_
      refine TL.assign hF rfl rfl ?_
      refine TL.nil ?_
      refine TQ.then_n ?_
      refine T.ret ?_
      have hkn : k = l.length := by omega
      subst hkn
      refine TQ.hsub (bseg b12 l.length (fun t => if t < l.length then o t && decide ((nd l t).op ≠ 0) else o t) :: η) (List.Sublist.cons_cons _ (List.sublist_cons_self _ _)) ?_
      refine TQ.rets [4] _ rfl rfl rfl ?_
      exact ⟨b12, rfl, bseg_congr (fun t ht => by rw [if_pos ht]; exact hsw.last ht)⟩
end Go.Proofs.YtefkmiomldhmjaaDoor
/- What is the same; how long lists are. -/
namespace Go.Proofs.YtefkmiomldhmjaaDoor
open Go.Sl
variable {S : Nat → Prop} {w0 : World} {η : Heap}
theorem eq53 (x y : DoneD) (w : World) : (Op.equal 53 (.agg x.cells.toArray) (.agg y.cells.toArray)).run Tryd.prog w = .ok (decide (x = y)) w := by
  have hf : Tryd.prog.underlying 53 = some (.struct (Tryd.prog.fieldsOf 53)) := by kernel_rfl
  have hs : Tryd.prog.stoodInHeld 53 = false := by kernel_rfl
  obtain ⟨f1, f2, f3, f4, h12, n1, n2, n3, n4, t1, t2, t3, t4, o1, o2, o3, o4⟩ : ∃ f1 f2 f3 f4, (Tryd.prog.fieldsOf 53).toList = [f1, f2, f3, f4] ∧ f1.name ≠ "_" ∧ f2.name ≠ "_" ∧ f3.name ≠ "_" ∧ f4.name ≠ "_" ∧ f1.type = 3 ∧ f2.type = 3 ∧ f3.type = 3 ∧ f4.type = 4 ∧ f1.offset = 0 ∧ f2.offset = 1 ∧ f3.offset = 2 ∧ f4.offset = 3 := by
    unfold Program.fieldsOf; rw [show Tryd.prog.underlying 53 = Tryd.prog.underlying 52 from by kernel_rfl, Tryd.underlying52]
    exact ⟨_, _, _, _, rfl, by decide, by decide, by decide, by decide, rfl, rfl, rfl, rfl, rfl, rfl, rfl, rfl⟩
  have hp : ∀ (xs : Array Value) (o : Nat) (v : Value), xs[o]? = some v → (part 3 xs o).run Tryd.prog w = .ok v w := by
    intro xs o v h
    simp [part, Ag.eq (P := Tryd.prog) (t := 3) (b := false), h]
  have hp4 : ∀ (xs : Array Value) (o : Nat) (v : Value), xs[o]? = some v → (part 4 xs o).run Tryd.prog w = .ok v w := by
    intro xs o v h
    simp [part, Ag.eq (P := Tryd.prog) (t := 4) (b := false), h]
  obtain ⟨a1, a2, a3, a4⟩ := x
  obtain ⟨b1, b2, b3, b4⟩ := y
  unfold Op.equal
  rw [show Op.maxDepth = 9999 + 1 from rfl, run_equalIn_struct w 9999 53 _ _ hf hs, h12]
  have hall : AllF Tryd.prog w 9999 (DoneD.cells ⟨a1, a2, a3, a4⟩).toArray (DoneD.cells ⟨b1, b2, b3, b4⟩).toArray [f1, f2, f3, f4] [(.int .i64 a1, .int .i64 b1, a1 == b1), (.int .i64 a2, .int .i64 b2, a2 == b2), (.int .i64 a3, .int .i64 b3, a3 == b3), (.bool a4, .bool b4, a4 == b4)] :=
    ⟨⟨n1, by rw [o1, t1]; exact hp _ 0 _ rfl, by rw [o1, t1]; exact hp _ 0 _ rfl, by rw [t1]; exact run_equalIn_int w 9998 3 .i64 .i64 a1 b1 Tryd.underlying3⟩,
     ⟨n2, by rw [o2, t2]; exact hp _ 1 _ rfl, by rw [o2, t2]; exact hp _ 1 _ rfl, by rw [t2]; exact run_equalIn_int w 9998 3 .i64 .i64 a2 b2 Tryd.underlying3⟩,
     ⟨n3, by rw [o3, t3]; exact hp _ 2 _ rfl, by rw [o3, t3]; exact hp _ 2 _ rfl, by rw [t3]; exact run_equalIn_int w 9998 3 .i64 .i64 a3 b3 Tryd.underlying3⟩,
     ⟨n4, by rw [o4, t4]; exact hp4 _ 3 _ rfl, by rw [o4, t4]; exact hp4 _ 3 _ rfl, by rw [t4]; exact run_equalIn_bool w 9998 4 a4 b4 Tryd.underlying4⟩, trivial⟩
  rw [run_eqFields_all _ _ hall]
  have e : (List.all [(Value.int .i64 a1, Value.int .i64 b1, a1 == b1), (Value.int .i64 a2, Value.int .i64 b2, a2 == b2), (Value.int .i64 a3, Value.int .i64 b3, a3 == b3), (Value.bool a4, Value.bool b4, a4 == b4)] fun p => p.2.2) = decide (DoneD.mk a1 a2 a3 a4 = DoneD.mk b1 b2 b3 b4) := by
    rw [Bool.eq_iff_iff]; simp
  rw [e]

set_option maxHeartbeats 2000000 in
theorem Same_fn {a b : Option Addr} {xs ys : List DoneD} {ca cb : Nat} (hx : Row S w0 η a (xs.flatMap DoneD.cells)) (hy : Row S w0 η b (ys.flatMap DoneD.cells)) (hl : xs.length < 2 ^ 63) :
    Rt Tryd.prog 25 [.slice a xs.length ca, .slice b ys.length cb].toArray S w0 η (fun v η' => v = .bool (decide (xs = ys)) ∧ η' = η) := by
  have hF := open_wide
  refine Rt.of (fn := Tryd.f25) Tryd.func25 rfl rfl ?_
  refine T.seq ?_
  refine T.region ?_
  refine TL.assign hF rfl rfl ?_
  refine TL.nil ?_
  refine TQ.then_n ?_
  refine T.seq ?_
  refine T.seq ?_
  refine T.region ?_
  refine TL.move hF rfl rfl ?_
  refine TL.len hF rfl rfl ?_
  refine TL.move hF rfl rfl ?_
  refine TL.len hF rfl rfl ?_
  refine TL.bin hF rfl rfl rfl rfl ?_
  refine TL.nil ?_
  refine TQ.then_n ?_
  first | refine T.cond_d rfl (fun ht10 => ?_) (fun ht10 => ?_) | refine T.cond _ rfl (fun ht10 => ?_) (fun ht10 => ?_)
  · refine T.seq ?_
    refine T.region ?_
    refine TL.assign hF rfl rfl ?_
    refine TL.nil ?_
    refine TQ.then_n ?_
    refine T.ret ?_
    refine TQ.then_r ?_
    refine TQ.rets [4] _ rfl rfl rfl ?_
    have e : decide (xs = ys) = false := decide_eq_false (fun h => by rw [h] at ht10; exact ht10 rfl)
    rw [e]; exact ⟨rfl, rfl⟩
  · refine T.skip ?_
    refine TQ.then_n ?_
    refine T.seq ?_
    refine T.seq ?_
    refine T.region ?_
    refine TL.assign hF rfl rfl ?_
    refine TL.nil ?_
    refine TQ.then_n ?_
    refine T.block ?_
    have hle : xs.length = ys.length := by omega
    refine T.loop (ι := Nat) (fun k => k ≤ xs.length ∧ xs.take k = ys.take k) (fun k => [(0, .slice a xs.length ca), (1, .slice b ys.length cb), (4, .bool false), (5, .int .i64 (k : Int))]) (fun _ => η) (fun k => xs.length - k) 0 ⟨Nat.zero_le _, by simp⟩ ⟨rfl, rfl, rfl, rfl, trivial⟩ rfl ?_
    rintro k ⟨hk, he⟩
    refine T.seq ?_
    refine T.seq ?_
    refine T.region ?_
    refine TL.move hF rfl rfl ?_
    refine TL.move hF rfl rfl ?_
    refine TL.len hF rfl rfl ?_
    refine TL.bin hF rfl rfl rfl rfl ?_
    refine TL.nil ?_
    refine TQ.then_n ?_
    first | refine T.cond_d rfl (fun ht14 => ?_) (fun ht14 => ?_) | refine T.cond _ rfl (fun ht14 => ?_) (fun ht14 => ?_)
    · refine T.skip ?_
      refine TQ.then_n ?_
      refine T.seq ?_
      refine T.block ?_
      refine T.seq ?_
      refine T.draw ?_
      refine DR.stepV [_] rfl [(0, _, none)] rfl rfl ⟨⟨rfl, by kernel_rfl⟩, trivial⟩ (fun ext => TL.move hF rfl rfl TL.fin) ?_
      refine DR.stepV [_, _] rfl [(5, _, none)] rfl rfl ⟨⟨rfl, by kernel_rfl⟩, trivial⟩ (fun ext => TL.move hF rfl rfl TL.fin) ?_
      refine DR.stepV [_, _, _] rfl [(17, _, some 0), (18, _, some 1)] rfl rfl ⟨⟨rfl, rfl, rfl⟩, ⟨rfl, rfl, rfl⟩, trivial⟩ (fun ext => TL.indexAddr hF rfl rfl (hx.tad dcl (by decide) (i := k) (by omega)) (by omega) (by omega) rfl TL.fin) ?_
      refine DR.stepV [_, _, _, _] rfl [(19, _, some 2)] rfl rfl ⟨⟨rfl, rfl, rfl⟩, trivial⟩ (fun ext => TL.loadA hF (xs[k]'(by omega)).cells rfl rfl (hx.tabA dcl (i := k) (by omega)) rfl TL.fin) ?_
      refine DR.stepV [_, _, _, _, _] rfl [(1, _, none)] rfl rfl ⟨⟨rfl, by kernel_rfl⟩, trivial⟩ (fun ext => TL.move hF rfl rfl TL.fin) ?_
      refine DR.stepV [_, _, _, _, _, _] rfl [(5, _, none)] rfl rfl ⟨⟨rfl, by kernel_rfl⟩, trivial⟩ (fun ext => TL.move hF rfl rfl TL.fin) ?_
      refine DR.stepV [_, _, _, _, _, _, _] rfl [(21, _, some 4), (22, _, some 5)] rfl rfl ⟨⟨rfl, rfl, rfl⟩, ⟨rfl, rfl, rfl⟩, trivial⟩ (fun ext => TL.indexAddr hF rfl rfl (hy.tad dcl (by decide) (i := k) (by omega)) (by omega) (by omega) rfl TL.fin) ?_
      refine DR.stepV [_, _, _, _, _, _, _, _] rfl [(23, _, some 6)] rfl rfl ⟨⟨rfl, rfl, rfl⟩, trivial⟩ (fun ext => TL.loadA hF (ys[k]'(by omega)).cells rfl rfl (hy.tabA dcl (i := k) (by omega)) rfl TL.fin) ?_
      refine DR.done [(24, _), (23, _), (22, _), (21, _), (20, _), (19, _), (18, _), (17, _)] [_] mixed (by kernel_rfl) (by kernel_rfl) (by kernel_rfl) rfl rfl ?_
      refine TL.neqA hF rfl rfl (by kernel_rfl) (fun w => eq53 (xs[k]'(by omega)) (ys[k]'(by omega)) w) rfl ?_
      refine TL.nil ?_
      refine TQ.then_n ?_
      refine T.cond _ rfl (fun hne => ?_) (fun hne => ?_)
      all_goals simp at hne
      · refine T.seq ?_
        refine T.region ?_
        refine TL.assign hF rfl rfl ?_
        refine TL.nil ?_
        refine TQ.then_n ?_
        refine T.ret ?_
        refine TQ.block_r ?_
        refine TQ.then_r ?_
        refine TQ.then_r ?_
        refine TQ.block_r ?_
        refine TQ.then_r ?_
        refine TQ.rets [4] _ rfl rfl rfl ?_
        have e : decide (xs = ys) = false := decide_eq_false (ne_of_getElem (k := k) (by omega) (by omega) hne)
        rw [e]; exact ⟨rfl, rfl⟩
      · refine T.skip ?_
        refine TQ.block_n ?_
        refine TQ.then_n ?_
        refine T.region ?_
        refine TL.move hF rfl rfl ?_
        refine TL.add hF rfl rfl (by omega) (by omega) rfl ?_
        refine TL.assign hF rfl rfl ?_
        refine TL.nil ?_
        exact TQ.round (k + 1) ⟨by omega, take_succ_eq (by omega) (by omega) he hne⟩ (by omega) ⟨rfl, rfl, rfl, rfl, trivial⟩ rfl
    · refine T.exit ?_
      refine TQ.then_x ?_
      refine TQ.then_x ?_
      refine TQ.block_x ?_
      refine TQ.then_n ?_
      refine T.seq ?_
      refine T.region ?_
      refine TL.assign hF rfl rfl ?_
      refine TL.nil ?_
      refine TQ.then_n ?_
      refine T.ret ?_
      refine TQ.rets [4] _ rfl rfl rfl ?_
      have hkn : k = xs.length := by omega
      rw [List.take_of_length_le (by omega), List.take_of_length_le (by omega)] at he
      rw [decide_eq_true he]; exact ⟨rfl, rfl⟩
theorem setsF_range : ∀ {sets : List SetD} {W : Nat → Int}, (∀ x ∈ sets, -2147483648 ≤ x.word ∧ x.word ≤ 2147483647) → (∀ j, -2147483648 ≤ W j ∧ W j ≤ 2147483647) → ∀ j, -2147483648 ≤ setsF W sets j ∧ setsF W sets j ≤ 2147483647
  | [], _, _, h, j => h j
  | x :: r, W, hx, h, j => setsF_range (sets := r) (W := upd W x.node.toNat x.word) (fun y hy => hx y (List.mem_cons_of_mem _ hy)) (fun i => by
      unfold upd; split
      · exact hx x List.mem_cons_self
      · exact h i) j
theorem start_range {l : List NodeD} (hok : Ok l) (j : Nat) : -2147483648 ≤ (startS l).W j ∧ (startS l).W j ≤ 2147483647 := by
  have e2 : (startS l).W j = if (nd l j).op = 0 then (nd l j).n else 0 := rfl
  rw [e2]
  by_cases hj : j < l.length
  · rw [nd_eq hj]; have := hok.word j hj; split <;> omega
  · have e3 : nd l j = default := by unfold nd; rw [List.getD_eq_getElem?_getD, List.getElem?_eq_none (by omega)]; rfl
    rw [e3]; decide
theorem allS_len (l : List NodeD) (pick : List Int) : ∀ (all : List InstD) (now : Nat) (s : St), (allS l pick all now s).2.2.length = all.length
  | [], _, _ => rfl
  | x :: r, now, s => by simp only [allS, List.length_cons, allS_len l pick r]

theorem heightsS_len (l : List NodeD) : (heightsS l).1.length ≤ l.length := by
  unfold heightsS; split <;> simp
theorem scratchS_len (l : List NodeD) (ws : List Int) : (scratchS l ws).1.length ≤ l.length := by
  unfold scratchS; split
  · split
    · split <;> simp
    · simp
  · simp
theorem runI_len (l : List NodeD) (want : Nat → Bool) (now : Nat) (pick : List Int) : ∀ f s, (runI l want now pick f s).1.length ≤ f
  | 0, s => by simp [runI]
  | f + 1, s => by
    unfold runI; split
    · simp
    · have h1 := doneS_len l now s (nextS pick s (readyS l want s now))
      have h2 := runI_len l want now pick f (lookS l now s (nextS pick s (readyS l want s now)))
      simp only [List.length_append]; omega
theorem allS_dlen (l : List NodeD) (pick : List Int) : ∀ all now s, (allS l pick all now s).1.length ≤ l.length * all.length
  | [], _, _ => by simp [allS]
  | x :: r, now, s => by
    have h1 := runI_len l (wantS l x.asks) now pick l.length (afterSets x now s)
    have h2 := allS_dlen l pick r (now + 1) (instS l x now pick s).2.2
    simp only [allS, List.length_append, List.length_cons, Nat.mul_add, Nat.mul_one]
    unfold instS at h2 ⊢; omega
theorem runS_len {l : List NodeD} (all : List InstD) (pick : List Int) : (runS l all pick).1.length ≤ 1200 := by
  unfold runS; split
  · rename_i h
    have hva : valid l = true := by
      unfold checkS at h; split at h
      · assumption
      · omega
    have hok := ok_of hva
    rw [checkS_rest hva] at h
    have h3 := (restE_ok h).1
    have h4 := allS_dlen l pick all 0 (startS l)
    have h5 := hok.len
    have h6 : l.length * all.length ≤ 40 * 30 := Nat.mul_le_mul h5 h3
    unfold toldS; simp only; omega
  · simp
theorem askedS_len {l : List NodeD} (all : List InstD) (pick : List Int) : (askedS l all pick).1.length ≤ all.length ∧ ∀ z ∈ (askedS l all pick).1, ∃ x ∈ all, z.length = x.asks.length := by
  unfold askedS; split
  · rename_i h0; clear h0
    refine ⟨by simp only [askedOf, List.length_zipWith]; omega, fun z hz => ?_⟩
    simp only [askedOf] at hz
    generalize (toldS l all pick).2.2 = Ws at hz
    induction all generalizing Ws with
    | nil => simp at hz
    | cons x r ih =>
      cases Ws with
      | nil => simp at hz
      | cons W Ws =>
        simp only [List.zipWith_cons_cons, List.mem_cons] at hz
        rcases hz with rfl | hz
        · exact ⟨x, List.mem_cons_self, by simp⟩
        · obtain ⟨y, h1, h2⟩ := ih Ws hz; exact ⟨y, List.mem_cons_of_mem _ h1, h2⟩
  · simp
theorem eagerS_len {l : List NodeD} (all : List InstD) (pick : List Int) : (eagerS l all pick).1.length ≤ all.length ∧ ∀ z ∈ (eagerS l all pick).1, z.length ≤ l.length := by
  unfold eagerS; split
  · refine ⟨by simp [toldS, allS_len], fun z hz => ?_⟩
    obtain ⟨W, _, rfl⟩ := List.mem_map.1 hz
    have := List.length_filter_le (fun i => (nd l i).eager) (List.range l.length)
    simpa [eagerOf] using this
  · simp

end Go.Proofs.YtefkmiomldhmjaaDoor
/- The document's examples: nodes, instants, and what they lead to. -/
namespace Go.Proofs.YtefkmiomldhmjaaDoor
open Go.Sl
/-- Which nodes are wanted, to be computed. -/
def needB (l : List NodeD) (asks : List Int) : Nat → Nat → Bool
  | 0, _ => false
  | f + 1, i => isRoot l asks i || (List.range l.length).any fun p => decide (i < p) && (decide ((i : Int) ∈ (nd l p).fr) && needB l asks f p)
def wantB (l : List NodeD) (asks : List Int) (i : Nat) : Bool := decide ((nd l i).op ≠ 0) && needB l asks (l.length - i) i
theorem needB_iff {l : List NodeD} {asks : List Int} (hok : Ok l) : ∀ f i, i < l.length → l.length - i ≤ f → (needB l asks f i = true ↔ QP l asks i)
  | 0, i, h, h2 => by omega
  | f + 1, i, h, h2 => by
    rw [QP.iff hok h]
    simp only [needB, Bool.or_eq_true, List.any_eq_true, List.mem_range, Bool.and_eq_true, decide_eq_true_eq]
    constructor
    · rintro (h1 | ⟨p, hp, h3, h4, h5⟩)
      · exact .inl h1
      · exact .inr ⟨p, h3, hp, (needB_iff hok f p hp (by omega)).1 h5, h4⟩
    · rintro (h1 | ⟨p, h3, hp, h5, h4⟩)
      · exact .inl h1
      · exact .inr ⟨p, hp, h3, h4, (needB_iff hok f p hp (by omega)).2 h5⟩
theorem nd_out {l : List NodeD} {i : Nat} (h : l.length ≤ i) : nd l i = default := by unfold nd; rw [List.getD_eq_getElem?_getD, List.getElem?_eq_none h]; rfl
theorem wantS_eq {l : List NodeD} {asks : List Int} (hok : Ok l) : wantS l asks = wantB l asks := by
  funext i
  rw [Bool.eq_iff_iff, wantS_iff]
  unfold wantB WantP
  by_cases h : i < l.length
  · rw [Bool.and_eq_true, decide_eq_true_eq, needB_iff hok _ i h (Nat.le_refl _)]; rfl
  · have e : (nd l i).op = 0 := by rw [nd_out (by omega)]; rfl
    simp [e]
def instC (l : List NodeD) (x : InstD) (now : Nat) (pick : List Int) (s : St) : List DoneD × Nat × St := runI l (wantB l x.asks) now pick l.length (afterSets x now s)
def allC (l : List NodeD) (pick : List Int) : List InstD → Nat → St → List DoneD × Nat × List (Nat → Int)
  | [], _, _ => ([], 0, [])
  | x :: r, now, s =>
    let z := instC l x now pick s
    let y := allC l pick r (now + 1) z.2.2
    (z.1 ++ y.1, z.2.1 + y.2.1, z.2.2.W :: y.2.2)
theorem allS_eq {l : List NodeD} (hok : Ok l) (pick : List Int) : ∀ all now s, allS l pick all now s = allC l pick all now s
  | [], _, _ => rfl
  | x :: r, now, s => by
    simp only [allS, allC, instS, instC, wantS_eq hok, allS_eq hok pick r]
def exN (b3 b5 b7 b9 : Nat) : List NodeD := [⟨0, 2, none, [], 0, false⟩, ⟨0, 5, none, [], 0, false⟩, ⟨1, 0, some ⟨b3, 0, none⟩, [0, 1], 2, false⟩, ⟨3, 2, some ⟨b5, 0, none⟩, [2], 1, false⟩, ⟨2, 0, some ⟨b7, 0, none⟩, [3, 0], 2, true⟩, ⟨1, 1, some ⟨b9, 0, none⟩, [4, 2], 2, false⟩]
def exI (b3 b6 b7 b9 : Nat) : List InstD := [⟨none, [], 0, none, [], 0⟩, ⟨some ⟨b3, 0, none⟩, [⟨0, 4⟩], 1, none, [], 0⟩, ⟨some ⟨b6, 0, none⟩, [⟨1, 6⟩], 1, some ⟨b7, 0, none⟩, [5], 1⟩, ⟨none, [], 0, some ⟨b9, 0, none⟩, [5], 1⟩]
def exD : List DoneD := [⟨0, 2, 7, true⟩, ⟨0, 3, 1, true⟩, ⟨0, 4, 2, true⟩, ⟨1, 2, 9, true⟩, ⟨1, 3, 1, false⟩, ⟨1, 4, 4, true⟩, ⟨2, 2, 10, true⟩, ⟨2, 3, 0, true⟩, ⟨2, 4, 4, false⟩, ⟨2, 5, 15, true⟩]
section
variable {a b c d e f g h : Nat}
theorem exN_valid : valid (exN a b c d) = true := by kernel_rfl
theorem exN_ok : Ok (exN a b c d) := ok_of exN_valid
theorem exN_len : (exN a b c d).length = 6 := rfl
theorem exI_len : (exI a b c d).length = 4 := rfl
theorem ex_heights : heightsS (exN a b c d) = ([0, 0, 1, 2, 3, 4], 0) := by kernel_rfl
theorem ex_scratch : scratchS (exN a b c d) [4, 6] = ([4, 6, 10, 0, 4, 15], 0) := by kernel_rfl
theorem ex_run : runS (exN a b c d) (exI e f g h) [] = (exD, 0) := by
  unfold runS toldS; rw [allS_eq exN_ok]; kernel_rfl
theorem ex_asked : askedS (exN a b c d) (exI e f g h) [3, 1] = ([[], [], [15], [15]], 0) := by
  unfold askedS toldS; rw [allS_eq exN_ok]; kernel_rfl
theorem ex_eager : eagerS (exN a b c d) (exI e f g h) [0, 2, 1] = ([[2], [4], [4], [4]], 0) := by
  unfold eagerS toldS; rw [allS_eq exN_ok]; kernel_rfl
theorem ex_looked : lookedS (exN a b c d) (exI e f g h) [7] = (14, 10, 0) := by
  unfold lookedS toldS; rw [allS_eq exN_ok]; kernel_rfl
end
end Go.Proofs.YtefkmiomldhmjaaDoor
/- The first law. -/
namespace Go.Proofs.YtefkmiomldhmjaaDoor
open Go.Sl
variable {S : Nat → Prop} {w0 : World} {η : Heap}
set_option maxHeartbeats 2000000 in
theorem nodes_fn  :
    Rt Tryd.prog 32 [].toArray S w0 η (fun v η' => ∃ b3 b5 b7 b9 b11 segs, v = .slice (some ⟨b11, 0, none⟩) (exN b3 b5 b7 b9).length 6 ∧ η' = segs ++ η ∧ Nodes S w0 segs (some ⟨b11, 0, none⟩) (exN b3 b5 b7 b9)) := by
  have hF := open_wide
  refine Rt.of (fn := Tryd.f32) Tryd.func32 rfl rfl ?_
  refine T.seq ?_
  refine T.region ?_
  refine TL.assign hF rfl rfl ?_
  refine TL.nil ?_
  refine TQ.then_n ?_
  refine T.seq ?_
  refine T.region ?_
  refine TL.build hF rfl (r := (.agg #[.int .i64 0, .int .i64 2, .slice none 0 0, .bool false])) (fun w => by kernel_rfl) rfl ?_
  refine TL.build hF rfl (r := (.agg #[.int .i64 0, .int .i64 5, .slice none 0 0, .bool false])) (fun w => by kernel_rfl) rfl ?_
  refine TL.buildSlice hF rfl (cs := (ints [0, 1]).toArray) (e := 3) (fun w => by kernel_rfl) rfl (fun b3 => ?_)
  refine TL.build hF rfl (r := (.agg #[.int .i64 1, .int .i64 0, .slice (some ⟨b3, 0, none⟩) 2 2, .bool false])) (fun w => by kernel_rfl) rfl ?_
  refine TL.buildSlice hF rfl (cs := (ints [2]).toArray) (e := 3) (fun w => by kernel_rfl) rfl (fun b5 => ?_)
  refine TL.build hF rfl (r := (.agg #[.int .i64 3, .int .i64 2, .slice (some ⟨b5, 0, none⟩) 1 1, .bool false])) (fun w => by kernel_rfl) rfl ?_
  refine TL.buildSlice hF rfl (cs := (ints [3, 0]).toArray) (e := 3) (fun w => by kernel_rfl) rfl (fun b7 => ?_)
  refine TL.build hF rfl (r := (.agg #[.int .i64 2, .int .i64 0, .slice (some ⟨b7, 0, none⟩) 2 2, .bool true])) (fun w => by kernel_rfl) rfl ?_
  refine TL.buildSlice hF rfl (cs := (ints [4, 2]).toArray) (e := 3) (fun w => by kernel_rfl) rfl (fun b9 => ?_)
  refine TL.build hF rfl (r := (.agg #[.int .i64 1, .int .i64 1, .slice (some ⟨b9, 0, none⟩) 2 2, .bool false])) (fun w => by kernel_rfl) rfl ?_
  refine TL.buildSlice hF rfl (cs := ((exN b3 b5 b7 b9).flatMap NodeD.cells).toArray) (e := 55) (fun w => by kernel_rfl) rfl (fun b11 => ?_)
  refine TL.assign hF rfl rfl ?_
  refine TL.nil ?_
  refine TQ.then_n ?_
  refine T.ret ?_
  refine TQ.rets [0] _ rfl rfl rfl ?_
  refine ⟨b3, b5, b7, b9, b11, [[(b11, Obj.cells ((exN b3 b5 b7 b9).flatMap NodeD.cells).toArray 55 (0, 0))], [(b9, Obj.cells (ints [4, 2]).toArray 3 (0, 0))], [(b7, Obj.cells (ints [3, 0]).toArray 3 (0, 0))], [(b5, Obj.cells (ints [2]).toArray 3 (0, 0))], [(b3, Obj.cells (ints [0, 1]).toArray 3 (0, 0))]], rfl, rfl, row_own (e := 55) (by simp), fun x hx => ?_⟩
  simp only [exN, List.mem_cons, List.not_mem_nil, or_false] at hx
  rcases hx with rfl | rfl | rfl | rfl | rfl | rfl
  · exact Row.none
  · exact Row.none
  · exact row_own (cs := ints [0, 1]) (e := 3) (by simp)
  · exact row_own (cs := ints [2]) (e := 3) (by simp)
  · exact row_own (cs := ints [3, 0]) (e := 3) (by simp)
  · exact row_own (cs := ints [4, 2]) (e := 3) (by simp)
set_option maxHeartbeats 2000000 in
theorem instants_fn  :
    Rt Tryd.prog 33 [].toArray S w0 η (fun v η' => ∃ b3 b6 b7 b9 b11 segs, v = .slice (some ⟨b11, 0, none⟩) (exI b3 b6 b7 b9).length 4 ∧ η' = segs ++ η ∧ Insts S w0 segs (some ⟨b11, 0, none⟩) (exI b3 b6 b7 b9)) := by
  have hF := open_wide
  refine Rt.of (fn := Tryd.f33) Tryd.func33 rfl rfl ?_
  refine T.seq ?_
  refine T.region ?_
  refine TL.assign hF rfl rfl ?_
  refine TL.nil ?_
  refine TQ.then_n ?_
  refine T.seq ?_
  refine T.region ?_
  refine TL.build hF rfl (r := (.agg #[.slice none 0 0, .slice none 0 0])) (fun w => by kernel_rfl) rfl ?_
  refine TL.build hF rfl (r := (.agg #[.int .i64 0, .int .i64 4])) (fun w => by kernel_rfl) rfl ?_
  refine TL.buildSlice hF rfl (cs := (SetD.cells ⟨0, 4⟩).toArray) (e := 68) (fun w => by kernel_rfl) rfl (fun b3 => ?_)
  refine TL.build hF rfl (r := (.agg #[.slice (some ⟨b3, 0, none⟩) 1 1, .slice none 0 0])) (fun w => by kernel_rfl) rfl ?_
  refine TL.build hF rfl (r := (.agg #[.int .i64 1, .int .i64 6])) (fun w => by kernel_rfl) rfl ?_
  refine TL.buildSlice hF rfl (cs := (SetD.cells ⟨1, 6⟩).toArray) (e := 68) (fun w => by kernel_rfl) rfl (fun b6 => ?_)
  refine TL.buildSlice hF rfl (cs := (ints [5]).toArray) (e := 3) (fun w => by kernel_rfl) rfl (fun b7 => ?_)
  refine TL.build hF rfl (r := (.agg #[.slice (some ⟨b6, 0, none⟩) 1 1, .slice (some ⟨b7, 0, none⟩) 1 1])) (fun w => by kernel_rfl) rfl ?_
  refine TL.buildSlice hF rfl (cs := (ints [5]).toArray) (e := 3) (fun w => by kernel_rfl) rfl (fun b9 => ?_)
  refine TL.build hF rfl (r := (.agg #[.slice none 0 0, .slice (some ⟨b9, 0, none⟩) 1 1])) (fun w => by kernel_rfl) rfl ?_
  refine TL.buildSlice hF rfl (cs := ((exI b3 b6 b7 b9).flatMap InstD.cells).toArray) (e := 50) (fun w => by kernel_rfl) rfl (fun b11 => ?_)
  refine TL.assign hF rfl rfl ?_
  refine TL.nil ?_
  refine TQ.then_n ?_
  refine T.ret ?_
  refine TQ.rets [0] _ rfl rfl rfl ?_
  refine ⟨b3, b6, b7, b9, b11, [[(b11, Obj.cells ((exI b3 b6 b7 b9).flatMap InstD.cells).toArray 50 (0, 0))], [(b9, Obj.cells (ints [5]).toArray 3 (0, 0))], [(b7, Obj.cells (ints [5]).toArray 3 (0, 0))], [(b6, Obj.cells (SetD.cells ⟨1, 6⟩).toArray 68 (0, 0))], [(b3, Obj.cells (SetD.cells ⟨0, 4⟩).toArray 68 (0, 0))]], rfl, rfl, row_own (e := 50) (by simp), fun x hx => ?_, fun x hx => ?_⟩
  · simp only [exI, List.mem_cons, List.not_mem_nil, or_false] at hx
    rcases hx with rfl | rfl | rfl | rfl
    · exact Row.none
    · exact row_own (cs := SetD.cells ⟨0, 4⟩) (e := 68) (by simp)
    · exact row_own (cs := SetD.cells ⟨1, 6⟩) (e := 68) (by simp)
    · exact Row.none
  · simp only [exI, List.mem_cons, List.not_mem_nil, or_false] at hx
    rcases hx with rfl | rfl | rfl | rfl
    · exact Row.none
    · exact Row.none
    · exact row_own (cs := ints [5]) (e := 3) (by simp)
    · exact row_own (cs := ints [5]) (e := 3) (by simp)
theorem EqT_fn {a b : Option Addr} {xs ys : List Int} {ca cb : Nat} (hx : Row S w0 η a (ints xs)) (hy : Row S w0 η b (ints ys)) (he : xs = ys) (hl : xs.length < 2 ^ 63) : Rt Tryd.prog 16 [.slice a xs.length ca, .slice b ys.length cb].toArray S w0 η (fun v η' => v = .bool true ∧ η' = η) := by
  have h := Equal_fn (ca := ca) (cb := cb) hx hy hl
  rw [decide_eq_true he] at h; exact h
theorem EqLT_fn {a b : Option Addr} {xs ys : List (List Int)} {ca cb : Nat} (hx : Lists S w0 η a xs) (hy : Lists S w0 η b ys) (he : xs = ys) (hl : xs.length < 2 ^ 63) (hlx : ∀ l ∈ xs, l.length < 2 ^ 63) : Rt Tryd.prog 26 [.slice a xs.length ca, .slice b ys.length cb].toArray S w0 η (fun v η' => v = .bool true ∧ η' = η) := by
  have h := EqualLists_fn (ca := ca) (cb := cb) hx hy hl hlx
  rw [decide_eq_true he] at h; exact h
theorem SameT_fn {a b : Option Addr} {xs ys : List DoneD} {ca cb : Nat} (hx : Row S w0 η a (xs.flatMap DoneD.cells)) (hy : Row S w0 η b (ys.flatMap DoneD.cells)) (he : xs = ys) (hl : xs.length < 2 ^ 63) : Rt Tryd.prog 25 [.slice a xs.length ca, .slice b ys.length cb].toArray S w0 η (fun v η' => v = .bool true ∧ η' = η) := by
  have h := Same_fn (ca := ca) (cb := cb) hx hy hl
  rw [decide_eq_true he] at h; exact h
theorem ex_lists {b4 b5 b6 b7 _b : Nat} {n1 n2 : List Int} (_h4 : Row S w0 η (some ⟨b4, 0, none⟩) (ints n1)) (_h5 : Row S w0 η (some ⟨b5, 0, none⟩) (ints n2)) (_h6 : Row S w0 η (some ⟨b6, 0, none⟩) (ints n1)) (_h7 : Row S w0 η (some ⟨b7, 0, none⟩) (ints n2)) : True := trivial

set_option maxHeartbeats 2000000 in
theorem awake_fn (hg : Kinds S w0) :
    Rt Tryd.prog 11 [].toArray S w0 [] (fun v _ => v = .bool true) := by
  have hF := open_wide
  refine Rt.of (fn := Tryd.f11) Tryd.func11 rfl rfl ?_
  refine T.seq ?_
  refine T.region ?_
  have hb := Back.refl S w0
  refine TL.assign hF rfl rfl ?_
  refine TL.nil ?_
  refine TQ.then_n ?_
  refine T.seq ?_
  refine T.region ?_
  refine TL.call hF (nodes_fn) rfl rfl ?_
  rintro _ _ ⟨p1, q1, r1, t1, n1, s1, rfl, rfl, hn1⟩
  refine TL.freeze s1 rfl (fun S1 w1 hz1 => ?_)
  have hb := hb.frz hz1
  have hg := hg.old hz1
  have hn1 := hn1.frz hz1
  refine TL.call hF (Heights_prog hg hn1 (by simp [exN]) (fun x hx => by simp only [exN, List.mem_cons, List.not_mem_nil, or_false] at hx; rcases hx with rfl | rfl | rfl | rfl | rfl | rfl <;> simp)) rfl rfl ?_
  rintro _ _ ⟨a1, c1, s2, rfl, rfl, j1⟩
  rw [ex_heights] at j1 ⊢
  dsimp only at j1 ⊢
  refine TL.freeze s2 rfl (fun S2 w2 hz2 => ?_)
  have hb := hb.frz hz2
  have hg := hg.old hz2
  have j1 := j1.frz hz2
  have hn1 := hn1.old hz2
  refine TL.move hF rfl rfl ?_
  refine TL.extract hF rfl rfl rfl ?_
  refine TL.extract hF rfl rfl rfl ?_
  refine TL.assign hF rfl rfl ?_
  refine TL.assign hF rfl rfl ?_
  refine TL.nil ?_
  refine TQ.then_n ?_
  refine T.seq ?_
  refine T.region ?_
  refine TL.call hF (nodes_fn) rfl rfl ?_
  rintro _ _ ⟨p2, q2, r2, t2, n2, s3, rfl, rfl, hn2⟩
  refine TL.freeze s3 rfl (fun S3 w3 hz3 => ?_)
  have hb := hb.frz hz3
  have hg := hg.old hz3
  have hn2 := hn2.frz hz3
  have hn1 := hn1.old hz3
  have j1 := j1.old hz3
  refine TL.buildSlice hF rfl (cs := (ints [4, 6]).toArray) (e := 3) (fun w => by kernel_rfl) rfl (fun b22 => ?_)
  have hw2 : Row S3 w3 [[(b22, Obj.cells (ints [4, 6]).toArray 3 (0, 0))]] (some ⟨b22, 0, none⟩) (ints [4, 6]) := row_own (e := 3) (by simp)
  refine TL.freeze [[(b22, Obj.cells (ints [4, 6]).toArray 3 (0, 0))]] rfl (fun S4 w4 hz4 => ?_)
  have hb := hb.frz hz4
  have hg := hg.old hz4
  have hw2 := hw2.frz hz4
  have hn1 := hn1.old hz4
  have j1 := j1.old hz4
  have hn2 := hn2.old hz4
  refine TL.call hF (Scratch_prog hg hn2 (by simp [exN]) (fun x hx => by simp only [exN, List.mem_cons, List.not_mem_nil, or_false] at hx; rcases hx with rfl | rfl | rfl | rfl | rfl | rfl <;> simp) (ws := [4, 6]) hw2 (by simp)) rfl rfl ?_
  rintro _ _ ⟨a2, c2, s5, rfl, rfl, j2⟩
  rw [ex_scratch] at j2 ⊢
  dsimp only at j2 ⊢
  refine TL.freeze s5 rfl (fun S5 w5 hz5 => ?_)
  have hb := hb.frz hz5
  have hg := hg.old hz5
  have j2 := j2.frz hz5
  have hn1 := hn1.old hz5
  have j1 := j1.old hz5
  have hn2 := hn2.old hz5
  have hw2 := hw2.old hz5
  refine TL.move hF rfl rfl ?_
  refine TL.extract hF rfl rfl rfl ?_
  refine TL.extract hF rfl rfl rfl ?_
  refine TL.assign hF rfl rfl ?_
  refine TL.assign hF rfl rfl ?_
  refine TL.nil ?_
  refine TQ.then_n ?_
  refine T.seq ?_
  refine T.region ?_
  refine TL.call hF (nodes_fn) rfl rfl ?_
  rintro _ _ ⟨p3, q3, r3, t3, n3, s6, rfl, rfl, hn3⟩
  refine TL.freeze s6 rfl (fun S6 w6 hz6 => ?_)
  have hb := hb.frz hz6
  have hg := hg.old hz6
  have hn3 := hn3.frz hz6
  have hn1 := hn1.old hz6
  have j1 := j1.old hz6
  have hn2 := hn2.old hz6
  have hw2 := hw2.old hz6
  have j2 := j2.old hz6
  refine TL.call hF (instants_fn) rfl rfl ?_
  rintro _ _ ⟨u3, v3, x3, y3, m3, s7, rfl, rfl, hi3⟩
  refine TL.freeze s7 rfl (fun S7 w7 hz7 => ?_)
  have hb := hb.frz hz7
  have hg := hg.old hz7
  have hi3 := hi3.frz hz7
  have hn1 := hn1.old hz7
  have j1 := j1.old hz7
  have hn2 := hn2.old hz7
  have hw2 := hw2.old hz7
  have j2 := j2.old hz7
  have hn3 := hn3.old hz7
  refine TL.call hF (Run_prog hg hn3 hi3 (pick := []) Row.none (by simp [exN]) (fun x hx => by simp only [exN, List.mem_cons, List.not_mem_nil, or_false] at hx; rcases hx with rfl | rfl | rfl | rfl | rfl | rfl <;> simp) (by simp [exI]) (by simp)) rfl rfl ?_
  rintro _ _ ⟨a3, c3, s8, rfl, rfl, j3⟩
  rw [ex_run] at j3 ⊢
  dsimp only at j3 ⊢
  refine TL.freeze s8 rfl (fun S8 w8 hz8 => ?_)
  have hb := hb.frz hz8
  have hg := hg.old hz8
  have j3 := j3.frz hz8
  have hn1 := hn1.old hz8
  have j1 := j1.old hz8
  have hn2 := hn2.old hz8
  have hw2 := hw2.old hz8
  have j2 := j2.old hz8
  have hn3 := hn3.old hz8
  have hi3 := hi3.old hz8
  refine TL.move hF rfl rfl ?_
  refine TL.extract hF rfl rfl rfl ?_
  refine TL.extract hF rfl rfl rfl ?_
  refine TL.assign hF rfl rfl ?_
  refine TL.assign hF rfl rfl ?_
  refine TL.nil ?_
  refine TQ.then_n ?_
  refine T.seq ?_
  refine T.region ?_
  refine TL.call hF (nodes_fn) rfl rfl ?_
  rintro _ _ ⟨p4, q4, r4, t4, n4, s9, rfl, rfl, hn4⟩
  refine TL.freeze s9 rfl (fun S9 w9 hz9 => ?_)
  have hb := hb.frz hz9
  have hg := hg.old hz9
  have hn4 := hn4.frz hz9
  have hn1 := hn1.old hz9
  have j1 := j1.old hz9
  have hn2 := hn2.old hz9
  have hw2 := hw2.old hz9
  have j2 := j2.old hz9
  have hn3 := hn3.old hz9
  have hi3 := hi3.old hz9
  have j3 := j3.old hz9
  refine TL.call hF (instants_fn) rfl rfl ?_
  rintro _ _ ⟨u4, v4, x4, y4, m4, s10, rfl, rfl, hi4⟩
  refine TL.freeze s10 rfl (fun S10 w10 hz10 => ?_)
  have hb := hb.frz hz10
  have hg := hg.old hz10
  have hi4 := hi4.frz hz10
  have hn1 := hn1.old hz10
  have j1 := j1.old hz10
  have hn2 := hn2.old hz10
  have hw2 := hw2.old hz10
  have j2 := j2.old hz10
  have hn3 := hn3.old hz10
  have hi3 := hi3.old hz10
  have j3 := j3.old hz10
  have hn4 := hn4.old hz10
  refine TL.buildSlice hF rfl (cs := (ints [3, 1]).toArray) (e := 3) (fun w => by kernel_rfl) rfl (fun b35 => ?_)
  have hw4 : Row S10 w10 [[(b35, Obj.cells (ints [3, 1]).toArray 3 (0, 0))]] (some ⟨b35, 0, none⟩) (ints [3, 1]) := row_own (e := 3) (by simp)
  refine TL.freeze [[(b35, Obj.cells (ints [3, 1]).toArray 3 (0, 0))]] rfl (fun S11 w11 hz11 => ?_)
  have hb := hb.frz hz11
  have hg := hg.old hz11
  have hw4 := hw4.frz hz11
  have hn1 := hn1.old hz11
  have j1 := j1.old hz11
  have hn2 := hn2.old hz11
  have hw2 := hw2.old hz11
  have j2 := j2.old hz11
  have hn3 := hn3.old hz11
  have hi3 := hi3.old hz11
  have j3 := j3.old hz11
  have hn4 := hn4.old hz11
  have hi4 := hi4.old hz11
  refine TL.call hF (Asked_prog hg hn4 hi4 (pick := [3, 1]) hw4 (by simp [exN]) (fun x hx => by simp only [exN, List.mem_cons, List.not_mem_nil, or_false] at hx; rcases hx with rfl | rfl | rfl | rfl | rfl | rfl <;> simp) (by simp [exI]) (by simp)) rfl rfl ?_
  rintro _ _ ⟨a4, c4, s12, rfl, rfl, j4⟩
  rw [ex_asked] at j4 ⊢
  dsimp only at j4 ⊢
  refine TL.freeze s12 rfl (fun S12 w12 hz12 => ?_)
  have hb := hb.frz hz12
  have hg := hg.old hz12
  have j4 := j4.frz hz12
  have hn1 := hn1.old hz12
  have j1 := j1.old hz12
  have hn2 := hn2.old hz12
  have hw2 := hw2.old hz12
  have j2 := j2.old hz12
  have hn3 := hn3.old hz12
  have hi3 := hi3.old hz12
  have j3 := j3.old hz12
  have hn4 := hn4.old hz12
  have hi4 := hi4.old hz12
  have hw4 := hw4.old hz12
  refine TL.move hF rfl rfl ?_
  refine TL.extract hF rfl rfl rfl ?_
  refine TL.extract hF rfl rfl rfl ?_
  refine TL.assign hF rfl rfl ?_
  refine TL.assign hF rfl rfl ?_
  refine TL.nil ?_
  refine TQ.then_n ?_
  refine T.seq ?_
  refine T.region ?_
  refine TL.call hF (nodes_fn) rfl rfl ?_
  rintro _ _ ⟨p5, q5, r5, t5, n5, s13, rfl, rfl, hn5⟩
  refine TL.freeze s13 rfl (fun S13 w13 hz13 => ?_)
  have hb := hb.frz hz13
  have hg := hg.old hz13
  have hn5 := hn5.frz hz13
  have hn1 := hn1.old hz13
  have j1 := j1.old hz13
  have hn2 := hn2.old hz13
  have hw2 := hw2.old hz13
  have j2 := j2.old hz13
  have hn3 := hn3.old hz13
  have hi3 := hi3.old hz13
  have j3 := j3.old hz13
  have hn4 := hn4.old hz13
  have hi4 := hi4.old hz13
  have hw4 := hw4.old hz13
  have j4 := j4.old hz13
  refine TL.call hF (instants_fn) rfl rfl ?_
  rintro _ _ ⟨u5, v5, x5, y5, m5, s14, rfl, rfl, hi5⟩
  refine TL.freeze s14 rfl (fun S14 w14 hz14 => ?_)
  have hb := hb.frz hz14
  have hg := hg.old hz14
  have hi5 := hi5.frz hz14
  have hn1 := hn1.old hz14
  have j1 := j1.old hz14
  have hn2 := hn2.old hz14
  have hw2 := hw2.old hz14
  have j2 := j2.old hz14
  have hn3 := hn3.old hz14
  have hi3 := hi3.old hz14
  have j3 := j3.old hz14
  have hn4 := hn4.old hz14
  have hi4 := hi4.old hz14
  have hw4 := hw4.old hz14
  have j4 := j4.old hz14
  have hn5 := hn5.old hz14
  refine TL.buildSlice hF rfl (cs := (ints [0, 2, 1]).toArray) (e := 3) (fun w => by kernel_rfl) rfl (fun b42 => ?_)
  have hw5 : Row S14 w14 [[(b42, Obj.cells (ints [0, 2, 1]).toArray 3 (0, 0))]] (some ⟨b42, 0, none⟩) (ints [0, 2, 1]) := row_own (e := 3) (by simp)
  refine TL.freeze [[(b42, Obj.cells (ints [0, 2, 1]).toArray 3 (0, 0))]] rfl (fun S15 w15 hz15 => ?_)
  have hb := hb.frz hz15
  have hg := hg.old hz15
  have hw5 := hw5.frz hz15
  have hn1 := hn1.old hz15
  have j1 := j1.old hz15
  have hn2 := hn2.old hz15
  have hw2 := hw2.old hz15
  have j2 := j2.old hz15
  have hn3 := hn3.old hz15
  have hi3 := hi3.old hz15
  have j3 := j3.old hz15
  have hn4 := hn4.old hz15
  have hi4 := hi4.old hz15
  have hw4 := hw4.old hz15
  have j4 := j4.old hz15
  have hn5 := hn5.old hz15
  have hi5 := hi5.old hz15
  refine TL.call hF (Eager_prog hg hn5 hi5 (pick := [0, 2, 1]) hw5 (by simp [exN]) (fun x hx => by simp only [exN, List.mem_cons, List.not_mem_nil, or_false] at hx; rcases hx with rfl | rfl | rfl | rfl | rfl | rfl <;> simp) (by simp [exI]) (by simp)) rfl rfl ?_
  rintro _ _ ⟨a5, c5, s16, rfl, rfl, j5⟩
  rw [ex_eager] at j5 ⊢
  dsimp only at j5 ⊢
  refine TL.freeze s16 rfl (fun S16 w16 hz16 => ?_)
  have hb := hb.frz hz16
  have hg := hg.old hz16
  have j5 := j5.frz hz16
  have hn1 := hn1.old hz16
  have j1 := j1.old hz16
  have hn2 := hn2.old hz16
  have hw2 := hw2.old hz16
  have j2 := j2.old hz16
  have hn3 := hn3.old hz16
  have hi3 := hi3.old hz16
  have j3 := j3.old hz16
  have hn4 := hn4.old hz16
  have hi4 := hi4.old hz16
  have hw4 := hw4.old hz16
  have j4 := j4.old hz16
  have hn5 := hn5.old hz16
  have hi5 := hi5.old hz16
  have hw5 := hw5.old hz16
  refine TL.move hF rfl rfl ?_
  refine TL.extract hF rfl rfl rfl ?_
  refine TL.extract hF rfl rfl rfl ?_
  refine TL.assign hF rfl rfl ?_
  refine TL.assign hF rfl rfl ?_
  refine TL.nil ?_
  refine TQ.then_n ?_
  refine T.seq ?_
  refine T.region ?_
  refine TL.call hF (nodes_fn) rfl rfl ?_
  rintro _ _ ⟨p6, q6, r6, t6, n6, s17, rfl, rfl, hn6⟩
  refine TL.freeze s17 rfl (fun S17 w17 hz17 => ?_)
  have hb := hb.frz hz17
  have hg := hg.old hz17
  have hn6 := hn6.frz hz17
  have hn1 := hn1.old hz17
  have j1 := j1.old hz17
  have hn2 := hn2.old hz17
  have hw2 := hw2.old hz17
  have j2 := j2.old hz17
  have hn3 := hn3.old hz17
  have hi3 := hi3.old hz17
  have j3 := j3.old hz17
  have hn4 := hn4.old hz17
  have hi4 := hi4.old hz17
  have hw4 := hw4.old hz17
  have j4 := j4.old hz17
  have hn5 := hn5.old hz17
  have hi5 := hi5.old hz17
  have hw5 := hw5.old hz17
  have j5 := j5.old hz17
  refine TL.call hF (instants_fn) rfl rfl ?_
  rintro _ _ ⟨u6, v6, x6, y6, m6, s18, rfl, rfl, hi6⟩
  refine TL.freeze s18 rfl (fun S18 w18 hz18 => ?_)
  have hb := hb.frz hz18
  have hg := hg.old hz18
  have hi6 := hi6.frz hz18
  have hn1 := hn1.old hz18
  have j1 := j1.old hz18
  have hn2 := hn2.old hz18
  have hw2 := hw2.old hz18
  have j2 := j2.old hz18
  have hn3 := hn3.old hz18
  have hi3 := hi3.old hz18
  have j3 := j3.old hz18
  have hn4 := hn4.old hz18
  have hi4 := hi4.old hz18
  have hw4 := hw4.old hz18
  have j4 := j4.old hz18
  have hn5 := hn5.old hz18
  have hi5 := hi5.old hz18
  have hw5 := hw5.old hz18
  have j5 := j5.old hz18
  have hn6 := hn6.old hz18
  refine TL.buildSlice hF rfl (cs := (ints [7]).toArray) (e := 3) (fun w => by kernel_rfl) rfl (fun b49 => ?_)
  have hw6 : Row S18 w18 [[(b49, Obj.cells (ints [7]).toArray 3 (0, 0))]] (some ⟨b49, 0, none⟩) (ints [7]) := row_own (e := 3) (by simp)
  refine TL.freeze [[(b49, Obj.cells (ints [7]).toArray 3 (0, 0))]] rfl (fun S19 w19 hz19 => ?_)
  have hb := hb.frz hz19
  have hg := hg.old hz19
  have hw6 := hw6.frz hz19
  have hn1 := hn1.old hz19
  have j1 := j1.old hz19
  have hn2 := hn2.old hz19
  have hw2 := hw2.old hz19
  have j2 := j2.old hz19
  have hn3 := hn3.old hz19
  have hi3 := hi3.old hz19
  have j3 := j3.old hz19
  have hn4 := hn4.old hz19
  have hi4 := hi4.old hz19
  have hw4 := hw4.old hz19
  have j4 := j4.old hz19
  have hn5 := hn5.old hz19
  have hi5 := hi5.old hz19
  have hw5 := hw5.old hz19
  have j5 := j5.old hz19
  have hn6 := hn6.old hz19
  have hi6 := hi6.old hz19
  refine TL.call hF (Looked_prog (pick := [7]) hg hn6 hi6 hw6 (by simp [exN]) (fun x hx => by simp only [exN, List.mem_cons, List.not_mem_nil, or_false] at hx; rcases hx with rfl | rfl | rfl | rfl | rfl | rfl <;> simp) (by simp [exI]) (by simp)) rfl rfl ?_
  rintro _ _ ⟨rfl, s99, rfl⟩
  rw [ex_looked]
  dsimp only
  refine TL.hsub [] (List.nil_sublist _) ?_
  refine TL.move hF rfl rfl ?_
  refine TL.extract hF rfl rfl rfl ?_
  refine TL.extract hF rfl rfl rfl ?_
  refine TL.extract hF rfl rfl rfl ?_
  refine TL.assign hF rfl rfl ?_
  refine TL.assign hF rfl rfl ?_
  refine TL.assign hF rfl rfl ?_
  refine TL.nil ?_
  refine TQ.then_n ?_
  refine T.seq ?_
  refine T.region ?_
  refine TL.build hF rfl (r := .agg (DoneD.cells ⟨0, 2, 7, true⟩).toArray) (fun w => by kernel_rfl) rfl ?_
  refine TL.build hF rfl (r := .agg (DoneD.cells ⟨0, 3, 1, true⟩).toArray) (fun w => by kernel_rfl) rfl ?_
  refine TL.build hF rfl (r := .agg (DoneD.cells ⟨0, 4, 2, true⟩).toArray) (fun w => by kernel_rfl) rfl ?_
  refine TL.build hF rfl (r := .agg (DoneD.cells ⟨1, 2, 9, true⟩).toArray) (fun w => by kernel_rfl) rfl ?_
  refine TL.build hF rfl (r := .agg (DoneD.cells ⟨1, 3, 1, false⟩).toArray) (fun w => by kernel_rfl) rfl ?_
  refine TL.build hF rfl (r := .agg (DoneD.cells ⟨1, 4, 4, true⟩).toArray) (fun w => by kernel_rfl) rfl ?_
  refine TL.build hF rfl (r := .agg (DoneD.cells ⟨2, 2, 10, true⟩).toArray) (fun w => by kernel_rfl) rfl ?_
  refine TL.build hF rfl (r := .agg (DoneD.cells ⟨2, 3, 0, true⟩).toArray) (fun w => by kernel_rfl) rfl ?_
  refine TL.build hF rfl (r := .agg (DoneD.cells ⟨2, 4, 4, false⟩).toArray) (fun w => by kernel_rfl) rfl ?_
  refine TL.build hF rfl (r := .agg (DoneD.cells ⟨2, 5, 15, true⟩).toArray) (fun w => by kernel_rfl) rfl ?_
  refine TL.buildSlice hF rfl (cs := (exD.flatMap DoneD.cells).toArray) (e := 53) (fun w => by kernel_rfl) rfl (fun b64 => ?_)
  refine TL.assign hF rfl rfl ?_
  refine TL.nil ?_
  refine TQ.then_n ?_
  refine T.seq ?_
  refine T.seq ?_
  refine T.region ?_
  refine TL.move hF rfl rfl ?_
  refine TL.bin hF rfl rfl rfl rfl ?_
  refine TL.move hF rfl rfl ?_
  refine TL.on rfl rfl rfl rfl ?_
  refine TL.move hF rfl rfl ?_
  refine TL.on rfl rfl rfl rfl ?_
  refine TL.move hF rfl rfl ?_
  refine TL.on rfl rfl rfl rfl ?_
  refine TL.bin hF rfl rfl rfl rfl ?_
  refine TL.pickF hF rfl rfl rfl rfl ?_
  refine TL.move hF rfl rfl ?_
  refine TL.on rfl rfl rfl rfl ?_
  refine TL.move hF rfl rfl ?_
  refine TL.on rfl rfl rfl rfl ?_
  refine TL.move hF rfl rfl ?_
  refine TL.on rfl rfl rfl rfl ?_
  refine TL.bin hF rfl rfl rfl rfl ?_
  refine TL.pickF hF rfl rfl rfl rfl ?_
  refine TL.move hF rfl rfl ?_
  refine TL.on rfl rfl rfl rfl ?_
  refine TL.move hF rfl rfl ?_
  refine TL.on rfl rfl rfl rfl ?_
  refine TL.move hF rfl rfl ?_
  refine TL.on rfl rfl rfl rfl ?_
  refine TL.bin hF rfl rfl rfl rfl ?_
  refine TL.pickF hF rfl rfl rfl rfl ?_
  refine TL.move hF rfl rfl ?_
  refine TL.on rfl rfl rfl rfl ?_
  refine TL.move hF rfl rfl ?_
  refine TL.on rfl rfl rfl rfl ?_
  refine TL.move hF rfl rfl ?_
  refine TL.on rfl rfl rfl rfl ?_
  refine TL.bin hF rfl rfl rfl rfl ?_
  refine TL.pickF hF rfl rfl rfl rfl ?_
  refine TL.move hF rfl rfl ?_
  refine TL.on rfl rfl rfl rfl ?_
  refine TL.move hF rfl rfl ?_
  refine TL.on rfl rfl rfl rfl ?_
  refine TL.move hF rfl rfl ?_
  refine TL.on rfl rfl rfl rfl ?_
  refine TL.bin hF rfl rfl rfl rfl ?_
  refine TL.pickF hF rfl rfl rfl rfl ?_
  refine TL.move hF rfl rfl ?_
  refine TL.on rfl rfl rfl rfl ?_
  refine TL.move hF rfl rfl ?_
  refine TL.on rfl rfl rfl rfl ?_
  refine TL.bin hF rfl rfl rfl rfl ?_
  refine TL.pickF hF rfl rfl rfl rfl ?_
  refine TL.move hF rfl rfl ?_
  refine TL.on rfl rfl rfl rfl ?_
  refine TL.move hF rfl rfl ?_
  refine TL.on rfl rfl rfl rfl ?_
  refine TL.bin hF rfl rfl rfl rfl ?_
  refine TL.pickF hF rfl rfl rfl rfl ?_
  refine TL.nil ?_
  refine TQ.then_n ?_
  refine T.cond_f rfl rfl ?_
  refine T.skip ?_
  refine TQ.then_n ?_
  refine T.seq ?_
  refine T.region ?_
  refine TL.move hF rfl rfl ?_
  refine TL.buildSlice hF rfl (cs := (ints [0, 0, 1, 2, 3, 4]).toArray) (e := 3) (fun w => by kernel_rfl) rfl (fun b101 => ?_)
  refine TL.callV hF (EqT_fn (xs := [0, 0, 1, 2, 3, 4]) j1.ro (row_own (cs := ints [0, 0, 1, 2, 3, 4]) (e := 3) (by simp)) rfl (by decide)) rfl rfl ?_
  refine TL.move hF rfl rfl ?_
  refine TL.on rfl rfl rfl rfl ?_
  refine TL.move hF rfl rfl ?_
  refine TL.on rfl rfl rfl rfl ?_
  refine TL.buildSlice hF rfl (cs := (ints [4, 6, 10, 0, 4, 15]).toArray) (e := 3) (fun w => by kernel_rfl) rfl (fun b105 => ?_)
  refine TL.on rfl rfl rfl rfl ?_
  refine TL.callV hF (EqT_fn (xs := [4, 6, 10, 0, 4, 15]) j2.ro (row_own (cs := ints [4, 6, 10, 0, 4, 15]) (e := 3) (by simp)) rfl (by decide)) rfl rfl ?_
  refine TL.pickT hF rfl rfl rfl rfl ?_
  refine TL.move hF rfl rfl ?_
  refine TL.on rfl rfl rfl rfl ?_
  refine TL.move hF rfl rfl ?_
  refine TL.on rfl rfl rfl rfl ?_
  refine TL.move hF rfl rfl ?_
  refine TL.on rfl rfl rfl rfl ?_
  refine TL.callV hF (SameT_fn (xs := exD) (ys := exD) j3.ro (row_own (cs := exD.flatMap DoneD.cells) (e := 53) (by simp)) rfl (by decide)) rfl rfl ?_
  refine TL.pickT hF rfl rfl rfl rfl ?_
  refine TL.move hF rfl rfl ?_
  refine TL.on rfl rfl rfl rfl ?_
  refine TL.move hF rfl rfl ?_
  refine TL.on rfl rfl rfl rfl ?_
  refine TL.buildSlice hF rfl (cs := (ints [15]).toArray) (e := 3) (fun w => by kernel_rfl) rfl (fun b115 => ?_)
  refine TL.on rfl rfl rfl rfl ?_
  refine TL.buildSlice hF rfl (cs := (ints [15]).toArray) (e := 3) (fun w => by kernel_rfl) rfl (fun b116 => ?_)
  refine TL.on rfl rfl rfl rfl ?_
  refine TL.buildSlice hF rfl (cs := #[.slice none 0 0, .slice none 0 0, .slice (some ⟨b115, 0, none⟩) 1 1, .slice (some ⟨b116, 0, none⟩) 1 1]) (e := 24) (fun w => by kernel_rfl) rfl (fun b117 => ?_)
  refine TL.on rfl rfl rfl rfl ?_
  refine TL.callV hF (EqLT_fn (xs := [[], [], [15], [15]]) (ys := [[], [], [15], [15]]) (j4.up (by simp)) (⟨[(none, 0), (none, 0), (some ⟨b115, 0, none⟩, 1), (some ⟨b116, 0, none⟩, 1)], rfl, row_own (cs := [.slice none 0 0, .slice none 0 0, .slice (some ⟨b115, 0, none⟩) 1 1, .slice (some ⟨b116, 0, none⟩) 1 1]) (e := 24) (by simp), fun i h1 h2 => by
    simp only [List.length_cons, List.length_nil] at h1
    have hi : i = 0 ∨ i = 1 ∨ i = 2 ∨ i = 3 := by omega
    rcases hi with rfl | rfl | rfl | rfl
    · exact Row.none
    · exact Row.none
    · exact (row_own (cs := ints [15]) (e := 3) (by simp))
    · exact (row_own (cs := ints [15]) (e := 3) (by simp))⟩) rfl (by decide) (by decide)) rfl rfl ?_
  refine TL.pickT hF rfl rfl rfl rfl ?_
  refine TL.move hF rfl rfl ?_
  refine TL.on rfl rfl rfl rfl ?_
  refine TL.move hF rfl rfl ?_
  refine TL.on rfl rfl rfl rfl ?_
  refine TL.buildSlice hF rfl (cs := (ints [2]).toArray) (e := 3) (fun w => by kernel_rfl) rfl (fun b122 => ?_)
  refine TL.on rfl rfl rfl rfl ?_
  refine TL.buildSlice hF rfl (cs := (ints [4]).toArray) (e := 3) (fun w => by kernel_rfl) rfl (fun b123 => ?_)
  refine TL.on rfl rfl rfl rfl ?_
  refine TL.buildSlice hF rfl (cs := (ints [4]).toArray) (e := 3) (fun w => by kernel_rfl) rfl (fun b124 => ?_)
  refine TL.on rfl rfl rfl rfl ?_
  refine TL.buildSlice hF rfl (cs := (ints [4]).toArray) (e := 3) (fun w => by kernel_rfl) rfl (fun b125 => ?_)
  refine TL.on rfl rfl rfl rfl ?_
  refine TL.buildSlice hF rfl (cs := #[.slice (some ⟨b122, 0, none⟩) 1 1, .slice (some ⟨b123, 0, none⟩) 1 1, .slice (some ⟨b124, 0, none⟩) 1 1, .slice (some ⟨b125, 0, none⟩) 1 1]) (e := 24) (fun w => by kernel_rfl) rfl (fun b126 => ?_)
  refine TL.on rfl rfl rfl rfl ?_
  refine TL.callV hF (EqLT_fn (xs := [[2], [4], [4], [4]]) (ys := [[2], [4], [4], [4]]) (j5.up (by simp)) (⟨[(some ⟨b122, 0, none⟩, 1), (some ⟨b123, 0, none⟩, 1), (some ⟨b124, 0, none⟩, 1), (some ⟨b125, 0, none⟩, 1)], rfl, row_own (cs := [.slice (some ⟨b122, 0, none⟩) 1 1, .slice (some ⟨b123, 0, none⟩) 1 1, .slice (some ⟨b124, 0, none⟩) 1 1, .slice (some ⟨b125, 0, none⟩) 1 1]) (e := 24) (by simp), fun i h1 h2 => by
    simp only [List.length_cons, List.length_nil] at h1
    have hi : i = 0 ∨ i = 1 ∨ i = 2 ∨ i = 3 := by omega
    rcases hi with rfl | rfl | rfl | rfl
    · exact (row_own (cs := ints [2]) (e := 3) (by simp))
    · exact (row_own (cs := ints [4]) (e := 3) (by simp))
    · exact (row_own (cs := ints [4]) (e := 3) (by simp))
    · exact (row_own (cs := ints [4]) (e := 3) (by simp))⟩) rfl (by decide) (by decide)) rfl rfl ?_
  refine TL.pickT hF rfl rfl rfl rfl ?_
  refine TL.assign hF rfl rfl ?_
  refine TL.nil ?_
  refine TQ.then_n ?_
  refine T.ret ?_
  exact TQ.retsF [0] _ hb rfl rfl rfl (fun _ => rfl)
end Go.Proofs.YtefkmiomldhmjaaDoor
/- What the arguments of the laws hold; the table that the program's start lays. -/
namespace Go.Proofs.YtefkmiomldhmjaaDoor
open Go.Sl Go.ChangeShapes Go.WideShapes Go.ChangeAt Go.Deep Go.RowKit
section
variable {H : Type} {enc : TypeId × Value → H} {W : World}
theorem list2 {l : List Value} (h : l.length = 2) : ∃ a b, l = [a, b] := by
  match l, h with
  | [a, b], _ => exact ⟨a, b, rfl⟩
theorem list3 {l : List Value} (h : l.length = 3) : ∃ a b c, l = [a, b, c] := by
  match l, h with
  | [a, b, c], _ => exact ⟨a, b, c, rfl⟩
theorem list4 {l : List Value} (h : l.length = 4) : ∃ a b c d, l = [a, b, c, d] := by
  match l, h with
  | [a, b, c, d], _ => exact ⟨a, b, c, d, rfl⟩
theorem u3 : Tryd.prog.underlying 3 = some (.int .i64) := by kernel_rfl
theorem u4 : Tryd.prog.underlying 4 = some .bool := by kernel_rfl
theorem u22 : Tryd.prog.underlying 22 = some (.slice 55) := by kernel_rfl
theorem u23 : Tryd.prog.underlying 23 = some (.slice 50) := by kernel_rfl
theorem u24 : Tryd.prog.underlying 24 = some (.slice 3) := by kernel_rfl
theorem u48 : Tryd.prog.underlying 48 = some (.slice 68) := by kernel_rfl
theorem u79 : Tryd.prog.underlying 79 = some (.array 4 78) := by kernel_rfl
theorem k3 : Tryd.prog.cellsOf 3 = 1 := by kernel_rfl
theorem k4 : Tryd.prog.cellsOf 4 = 1 := by kernel_rfl
theorem k24 : Tryd.prog.cellsOf 24 = 1 := by kernel_rfl
theorem k48 : Tryd.prog.cellsOf 48 = 1 := by kernel_rfl
theorem k50 : Tryd.prog.cellsOf 50 = 2 := by kernel_rfl
theorem k55 : Tryd.prog.cellsOf 55 = 4 := by kernel_rfl
theorem k68 : Tryd.prog.cellsOf 68 = 2 := by kernel_rfl
theorem k78 : Tryd.prog.cellsOf 78 = 3 := by kernel_rfl
theorem k79 : Tryd.prog.cellsOf 79 = 12 := by kernel_rfl
theorem node_read {fuel : Nat} {cs : List Value} {y : DataW H × List MemPlace} (h : DataW.trod enc Tryd.prog W 0 (fun _ => true) true fuel 55 cs = some y) : ∃ x : NodeD, cs = x.cells ∧ Row (Old W) W [] x.fa (ints x.fr) ∧ x.fr.length ≤ maxLen := by
  obtain ⟨n, hl, hf⟩ := struct_read (l := [(3, 0), (3, 1), (24, 2), (4, 3)]) (by kernel_rfl) h
  rw [k55] at hl
  obtain ⟨c0, c1, c2, c3, rfl⟩ := list4 hl
  obtain ⟨y0, h0⟩ := hf 0 3 0 rfl
  obtain ⟨y1, h1⟩ := hf 1 3 1 rfl
  obtain ⟨y2, h2⟩ := hf 2 24 2 rfl
  obtain ⟨y3, h3⟩ := hf 3 4 3 rfl
  rw [k3] at h0 h1
  rw [k24] at h2
  rw [k4] at h3
  obtain ⟨z, e0, _, _⟩ := DataW.trod_int u3 h0
  obtain ⟨z1, e1, _, _⟩ := DataW.trod_int u3 h1
  obtain ⟨b, e3, _⟩ := DataW.trod_bool u4 h3
  simp only [List.drop_zero, List.take_succ_cons, List.take_zero, List.drop_succ_cons, List.cons.injEq, and_true] at e0 e1 e3 h2
  obtain ⟨a, xs, c, e2, hm, hrow, _⟩ := ints_read u24 u3 k3 h2
  exact ⟨⟨z, z1, a, xs, c, b⟩, by rw [e0, e1, e2, e3]; rfl, hrow, hm⟩
theorem set_read {fuel : Nat} {cs : List Value} {y : DataW H × List MemPlace} (h : DataW.trod enc Tryd.prog W 0 (fun _ => true) true fuel 68 cs = some y) : ∃ x : SetD, cs = x.cells := by
  obtain ⟨n, hl, hf⟩ := struct_read (l := [(3, 0), (3, 1)]) (by kernel_rfl) h
  rw [k68] at hl
  obtain ⟨c0, c1, rfl⟩ := list2 hl
  obtain ⟨y0, h0⟩ := hf 0 3 0 rfl
  obtain ⟨y1, h1⟩ := hf 1 3 1 rfl
  rw [k3] at h0 h1
  obtain ⟨z, e0, _, _⟩ := DataW.trod_int u3 h0
  obtain ⟨z1, e1, _, _⟩ := DataW.trod_int u3 h1
  simp only [List.drop_zero, List.take_succ_cons, List.take_zero, List.drop_succ_cons, List.cons.injEq, and_true] at e0 e1
  exact ⟨⟨z, z1⟩, by rw [e0, e1]; rfl⟩
theorem inst_read {fuel : Nat} {cs : List Value} {y : DataW H × List MemPlace} (h : DataW.trod enc Tryd.prog W 0 (fun _ => true) true fuel 50 cs = some y) : ∃ x : InstD, cs = x.cells ∧ Row (Old W) W [] x.sa (x.sets.flatMap SetD.cells) ∧ Row (Old W) W [] x.aa (ints x.asks) ∧ x.sets.length ≤ maxLen ∧ x.asks.length ≤ maxLen := by
  obtain ⟨n, hl, hf⟩ := struct_read (l := [(48, 0), (24, 1)]) (by kernel_rfl) h
  rw [k50] at hl
  obtain ⟨c0, c1, rfl⟩ := list2 hl
  obtain ⟨y0, h0⟩ := hf 0 48 0 rfl
  obtain ⟨y1, h1⟩ := hf 1 24 1 rfl
  rw [k48] at h0
  rw [k24] at h1
  simp only [List.drop_zero, List.take_succ_cons, List.take_zero, List.drop_succ_cons] at h0 h1
  obtain ⟨a1, xs, c1, e1, hm1, hrow1, _⟩ := ints_read u24 u3 k3 h1
  obtain ⟨a, len, cap, n2, cs2, e2, hlc, hm, hlen, hrow, hel⟩ := slice_read u48 (by rw [k68]; omega) h0
  rw [k68] at hlen hel
  obtain ⟨l, h5, h6, _⟩ := list_read (c := 2) (Q := fun _ => True) SetD.cells hlen (fun i hi => by
    obtain ⟨y, hy⟩ := hel i hi
    obtain ⟨x, hx⟩ := set_read hy
    exact ⟨x, hx, trivial⟩)
  refine ⟨⟨a, l, cap, a1, xs, c1⟩, ?_, by rw [← h6]; exact hrow, hrow1, by show l.length ≤ maxLen; omega, hm1⟩
  rw [e1, e2, ← h5]; rfl
theorem nodes_read {fuel : Nat} {v : Value} {y : DataW H × List MemPlace} (h : DataW.trod enc Tryd.prog W 0 (fun _ => true) true fuel 22 [v] = some y) :
    ∃ (a : Option Addr) (l : List NodeD) (cap : Nat), v = .slice a l.length cap ∧ Nodes (Old W) W [] a l ∧ l.length < 2 ^ 63 ∧ ∀ x ∈ l, x.fr.length < 2 ^ 63 := by
  obtain ⟨a, len, cap, n2, cs2, e2, hlc, hm, hlen, hrow, hel⟩ := slice_read u22 (by rw [k55]; omega) h
  rw [k55] at hlen hel
  obtain ⟨l, h5, h6, h7⟩ := list_read (c := 4) (Q := fun x : NodeD => Row (Old W) W [] x.fa (ints x.fr) ∧ x.fr.length ≤ maxLen) NodeD.cells hlen (fun i hi => by
    obtain ⟨y, hy⟩ := hel i hi
    exact node_read hy)
  refine ⟨a, l, cap, by rw [h5]; exact e2, ⟨by rw [← h6]; exact hrow, fun r hr => (h7 r hr).1⟩, ?_, fun r hr => ?_⟩
  · unfold maxLen at hm; omega
  · have := (h7 r hr).2; unfold maxLen at this; omega
theorem insts_read {fuel : Nat} {v : Value} {y : DataW H × List MemPlace} (h : DataW.trod enc Tryd.prog W 0 (fun _ => true) true fuel 23 [v] = some y) :
    ∃ (a : Option Addr) (l : List InstD) (cap : Nat), v = .slice a l.length cap ∧ Insts (Old W) W [] a l ∧ l.length < 2 ^ 63 ∧ ∀ x ∈ l, x.sets.length < 2 ^ 63 ∧ x.asks.length < 2 ^ 63 := by
  obtain ⟨a, len, cap, n2, cs2, e2, hlc, hm, hlen, hrow, hel⟩ := slice_read u23 (by rw [k50]; omega) h
  rw [k50] at hlen hel
  obtain ⟨l, h5, h6, h7⟩ := list_read (c := 2) (Q := fun x : InstD => Row (Old W) W [] x.sa (x.sets.flatMap SetD.cells) ∧ Row (Old W) W [] x.aa (ints x.asks) ∧ x.sets.length ≤ maxLen ∧ x.asks.length ≤ maxLen) InstD.cells hlen (fun i hi => by
    obtain ⟨y, hy⟩ := hel i hi
    exact inst_read hy)
  refine ⟨a, l, cap, by rw [h5]; exact e2, ⟨by rw [← h6]; exact hrow, fun r hr => (h7 r hr).1, fun r hr => (h7 r hr).2.1⟩, ?_, fun r hr => ?_⟩
  · unfold maxLen at hm; omega
  · have h8 := (h7 r hr).2.2.1; have h9 := (h7 r hr).2.2.2; unfold maxLen at h8 h9; omega
theorem ints_arg {fuel : Nat} {v : Value} {y : DataW H × List MemPlace} (h : DataW.trod enc Tryd.prog W 0 (fun _ => true) true fuel 24 [v] = some y) :
    ∃ (a : Option Addr) (l : List Int) (cap : Nat), v = .slice a l.length cap ∧ Row (Old W) W [] a (ints l) ∧ l.length < 2 ^ 63 := by
  obtain ⟨a, xs, c, e2, hm, hrow, _⟩ := ints_read u24 u3 k3 h
  exact ⟨a, xs, c, e2, hrow, by unfold maxLen at hm; omega⟩
end
theorem Tryd.own : ownKnob Tryd.prog.godebug = none := by kernel_rfl
theorem Tryd.laidOut : laidOutB Tryd.prog = true := by kernel_rfl
theorem gKinds : Tryd.prog.globalNamed "deltaworks/sched.kinds" = some 0 := by kernel_rfl
theorem tKinds : (Tryd.prog.globals[0]?).map (·.type) = some 79 := by kernel_rfl
abbrev laidL : List (String × DataW Unit) := [("deltaworks/sched.kinds", Rows.laid_deltaworks_sched_kinds)]
theorem door_met (os : Os) (args : Array Value) : laidMetH Tryd.prog laidL ((World.doorLaid Tryd.prog 2000 os).forCall (fun _ _ => 0) ⟨#[], args, []⟩).memory :=
  laidMetH_of_parts3 (fuel := 8) (laidMet_of_run' 8 (by kernel_rfl) (by kernel_rfl)) (by kernel_rfl) (by kernel_rfl)
theorem kind_read {W : World} {m f0 : Nat} {cs : List Value} {y : DataW (List UInt8) × List MemPlace} {a b : Int} {c : UInt8} {r : List UInt8} (hone : ((List.range Tryd.prog.funcs.size).filter fun f => (Tryd.prog.funcs[f]?).any (·.name.toUTF8.data.toList == c :: r)) = [f0])
    (h : DataW.trod (funcToken Tryd.prog) Tryd.prog W 0 (fun _ => true) true m 78 cs = some y) (hy : y.1 = .agg [.lit (.int .i64 a), .lit (.int .i64 b), .held (c :: r)]) : cs = [.int .i64 a, .int .i64 b, .func (.func f0) #[] #[]] := by
  obtain ⟨g0, g1, g2, hu, t0, t1, o0, o1, o2, ps, rs, va, hft⟩ : ∃ g0 g1 g2 : Field, Tryd.prog.underlying 78 = some (.struct #[g0, g1, g2]) ∧ g0.type = 3 ∧ g1.type = 3 ∧ g0.offset = 0 ∧ g1.offset = 1 ∧ g2.offset = 2 ∧ ∃ ps rs va, Tryd.prog.underlying g2.type = some (.func ps rs va) := by
    rw [show Tryd.prog.underlying 78 = Tryd.prog.underlying 77 from by kernel_rfl, Tryd.underlying77]
    exact ⟨_, _, _, rfl, rfl, rfl, rfl, rfl, rfl, _, _, _, Tryd.underlying76⟩
  obtain ⟨y0, y1, y2, n, he, hl, h0, h1, h2⟩ := trod_struct3 hu h
  rw [k78] at hl
  obtain ⟨c0, c1, c2, rfl⟩ := list3 hl
  subst he
  simp only [DataW.agg.injEq, List.cons.injEq, and_true] at hy
  obtain ⟨hy0, hy1, hy2⟩ := hy
  rw [t0, o0, k3] at h0
  rw [t1, o1, k3] at h1
  have hc : Tryd.prog.cellsOf g2.type = 1 := by
    have h3 : (∀ g0 g1 g2 : Field, Tryd.prog.underlying 78 = some (.struct #[g0, g1, g2]) → Tryd.prog.cellsOf g2.type = 1) := by
      rw [show Tryd.prog.underlying 78 = Tryd.prog.underlying 77 from by kernel_rfl, Tryd.underlying77]
      intro g0 g1 g2 hh
      simp only [Option.some.injEq, TypeDesc.struct.injEq] at hh
      cases hh
      kernel_rfl
    exact h3 g0 g1 g2 hu
  rw [hc, o2] at h2
  obtain ⟨z, e0, e0', _⟩ := DataW.trod_int u3 h0
  obtain ⟨z1, e1, e1', _⟩ := DataW.trod_int u3 h1
  simp only [List.drop_zero, List.take_succ_cons, List.take_zero, List.drop_succ_cons, List.cons.injEq, and_true] at e0 e1 h2
  rw [e0'] at hy0
  rw [e1'] at hy1
  simp only [DataW.lit.injEq, Lit.int.injEq, true_and] at hy0 hy1
  obtain ⟨d2, q2⟩ := y2
  simp only at hy2
  subst hy2
  have h3 := Go.func_of_trod hft hone h2
  rw [e0, e1, h3, hy0, hy1]
theorem kinds_of_laid {W : World} (h : laidMetH Tryd.prog laidL W) : Kinds (Old W) W := by
  obtain ⟨g, t, cs, fuel, p, hg, ht, hv, hd⟩ := h.funcs (List.mem_singleton.2 rfl)
  obtain rfl := Option.some.inj (gKinds.symm.trans hg)
  obtain rfl := Option.some.inj (tKinds.symm.trans ht)
  obtain ⟨xs, m, rfl, hx1, hlen, hn4, hel⟩ := DataW.trod_array u79 hd
  rw [k78] at hel
  simp only [Prod.mk.injEq, DataW.funcsOut, DataW.funcsOutAll, DataW.agg.injEq] at hx1
  obtain ⟨hx, _⟩ := hx1
  match xs, hn4, hx, hel with
  | [x0, x1, x2, x3], _, hx, hel =>
    simp only [List.map_cons, List.map_nil, List.cons.injEq, and_true] at hx
    obtain ⟨q0, q1, q2, q3⟩ := hx
    have r0 := kind_read (f0 := 88) (by kernel_rfl) (hel 0 (by decide)) q0.symm
    have r1 := kind_read (f0 := 90) (by kernel_rfl) (hel 1 (by decide)) q1.symm
    have r2 := kind_read (f0 := 91) (by kernel_rfl) (hel 2 (by decide)) q2.symm
    have r3 := kind_read (f0 := 93) (by kernel_rfl) (hel 3 (by decide)) q3.symm
    intro o j v ho hj
    have hj3 : j < 3 := by have := (List.getElem?_eq_some_iff.1 hj).1; rw [kcl] at this; exact this
    have key : (cs.toList.drop (o * 3)).take 3 = kindC o := by
      have : o = 0 ∨ o = 1 ∨ o = 2 ∨ o = 3 := by omega
      rcases this with rfl | rfl | rfl | rfl
      · exact r0
      · exact r1
      · exact r2
      · exact r3
    have hcell : W.cell? ⟨0, o * 3 + j, none⟩ = some v := by
      rw [← key, List.getElem?_take, if_pos hj3, List.getElem?_drop] at hj
      have := World.var?_cell hg hv (o * 3 + j)
      rw [this, ← Array.getElem?_toList]; exact hj
    exact .rd (cell_lt hcell).1 hcell
end Go.Proofs.YtefkmiomldhmjaaDoor
/- What the arguments of the laws that numbers make hold. -/
namespace Go.Proofs.YtefkmiomldhmjaaDoor
open Go.Sl
theorem u5 : Tryd.prog.underlying 5 = some (.int .u8) := by kernel_rfl
theorem u43 : Tryd.prog.underlying 43 = some (.slice 95) := by kernel_rfl
theorem u44 : Tryd.prog.underlying 44 = some (.slice 97) := by kernel_rfl
theorem u95 : Tryd.prog.underlying 95 = some (.int .u32) := by kernel_rfl
theorem u97 : Tryd.prog.underlying 97 = some (.int .u16) := by kernel_rfl
theorem k95 : Tryd.prog.cellsOf 95 = 1 := by kernel_rfl
theorem k97 : Tryd.prog.cellsOf 97 = 1 := by kernel_rfl
theorem b32 (z : Int) (h : (Lit.int .u32 z).wf = true) : 0 ≤ z ∧ z < ((4294967296 : Nat) : Int) := by have := wf_u32 h; omega
end Go.Proofs.YtefkmiomldhmjaaDoor
/- An instant, whatever the order: what its looks lead to. -/
namespace Go.Proofs.YtefkmiomldhmjaaDoor
open Go.Sl
/-! Words from scratch, by inputs -/
theorem whole_ge (l : List NodeD) (V : Nat → Int) : ∀ k i, k ≤ i → wholeF l V k i = V i
  | 0, _, _ => rfl
  | k + 1, i, h => by
    rw [wholeF_succ]; split
    · exact whole_ge l V k i (by omega)
    · rw [upd_ne _ _ (by omega)]; exact whole_ge l V k i (by omega)
theorem whole_lt (l : List NodeD) (V : Nat → Int) {i : Nat} : ∀ k, i < k → wholeF l V k i = wholeF l V (i + 1) i
  | 0, h => by omega
  | k + 1, h => by
    by_cases e : k = i
    · subst e; rfl
    · rw [wholeF_succ]; split
      · exact whole_lt l V k (by omega)
      · rw [upd_ne _ _ (by omega)]; exact whole_lt l V k (by omega)
def finW (l : List NodeD) (U : Nat → Int) : Nat → Int := wholeF l U l.length
theorem fin_in {l : List NodeD} {U : Nat → Int} {i : Nat} (h : (nd l i).op = 0) : finW l U i = U i := by
  unfold finW
  by_cases hi : i < l.length
  · rw [whole_lt l U _ hi, wholeF_succ, if_pos h, whole_ge l U i i (Nat.le_refl _)]
  · exact whole_ge l U _ _ (by omega)
theorem fin_op {l : List NodeD} (hok : Ok l) {U : Nat → Int} {i : Nat} (hi : i < l.length) (h : (nd l i).op ≠ 0) : finW l U i = comp (nd l i) (finW l U) := by
  unfold finW
  rw [whole_lt l U _ hi, wholeF_succ, if_neg h, upd_same]
  refine comp_congr fun f hf => ?_
  rw [nd_eq hi] at hf
  have := hok.fr i hi f hf
  rw [whole_lt l U i (by omega), whole_lt l U l.length (by omega)]
/-! What a look leads to, by what it reads at last -/
def oldN (l : List NodeD) (s s' : St) (i : Nat) : Bool := (nd l i).fr.any (fun f => decide (s'.O f.toNat > s.L i)) || decide (s.L i < 0)
def othN (l : List NodeD) (s s' : St) (i : Nat) : Bool := decide (s.L i < 0) || decide (comp (nd l i) s'.W ≠ s.W i)
def dnN (l : List NodeD) (now : Nat) (s s' : St) (i : Nat) : List DoneD := if oldN l s s' i = true then [⟨now, i, comp (nd l i) s'.W, othN l s s' i⟩] else []
structure Lk (l : List NodeD) (now : Nat) (s s' : St) (i : Nat) : Prop where
  L : s'.L i = now
  W : s'.W i = if oldN l s s' i = true then comp (nd l i) s'.W else s.W i
  O : s'.O i = if oldN l s s' i = true ∧ othN l s s' i = true then (now : Int) else s.O i
structure Un (s s' : St) (i : Nat) : Prop where
  L : s'.L i = s.L i
  W : s'.W i = s.W i
  O : s'.O i = s.O i
theorem oldN_congr {l : List NodeD} {s s1 s2 : St} {i : Nat} (h : ∀ f ∈ (nd l i).fr, s1.O f.toNat = s2.O f.toNat) : oldN l s s1 i = oldN l s s2 i := by
  unfold oldN
  congr 1
  rw [Bool.eq_iff_iff, List.any_eq_true, List.any_eq_true]
  constructor
  · rintro ⟨f, hf, h2⟩; exact ⟨f, hf, by rw [← h f hf]; exact h2⟩
  · rintro ⟨f, hf, h2⟩; exact ⟨f, hf, by rw [h f hf]; exact h2⟩
theorem othN_congr {l : List NodeD} {s s1 s2 : St} {i : Nat} (h : ∀ f ∈ (nd l i).fr, s1.W f.toNat = s2.W f.toNat) : othN l s s1 i = othN l s s2 i := by
  unfold othN; rw [comp_congr h]
theorem dnN_congr {l : List NodeD} {now : Nat} {s s1 s2 : St} {i : Nat} (hO : ∀ f ∈ (nd l i).fr, s1.O f.toNat = s2.O f.toNat) (hW : ∀ f ∈ (nd l i).fr, s1.W f.toNat = s2.W f.toNat) : dnN l now s s1 i = dnN l now s s2 i := by
  unfold dnN; rw [oldN_congr hO, othN_congr hW, comp_congr hW]
structure WOk (l : List NodeD) (want : Nat → Bool) : Prop where
  lt : ∀ i, want i = true → i < l.length
  op : ∀ i, want i = true → (nd l i).op ≠ 0
  fr : ∀ i, want i = true → ∀ f ∈ (nd l i).fr, (nd l f.toNat).op = 0 ∨ want f.toNat = true
theorem wantS_ok {l : List NodeD} (_hok : Ok l) (asks : List Int) : WOk l (wantS l asks) := by
  have hl : ∀ i, wantS l asks i = true → i < l.length := fun i h => by
    have h1 := (wantS_iff.1 h).1
    by_cases hi : i < l.length
    · exact hi
    · exfalso; apply h1; unfold nd; rw [List.getD_eq_getElem?_getD, List.getElem?_eq_none (by omega)]; rfl
  refine ⟨hl, fun i h => (wantS_iff.1 h).1, fun i h f hf => ?_⟩
  by_cases h0 : (nd l f.toNat).op = 0
  · exact .inl h0
  · obtain ⟨h1, r, hr, h2, h3⟩ := wantS_iff.1 h
    refine .inr (wantS_iff.2 ⟨h0, r, hr, h2, ?_⟩)
    clear h2 h hr h1 h0
    induction h3 with
    | refl => exact .step f hf (.refl _)
    | step g hg t ih => exact .step g hg (ih hf)
/-- Where one stands in an instant: the nodes that were looked at, in order. -/
structure Mid (l : List NodeD) (want : Nat → Bool) (now : Nat) (s s1 : St) (os : List Nat) : Prop where
  dup : os.Nodup
  want : ∀ i ∈ os, want i = true
  lk : ∀ i ∈ os, Lk l now s s1 i
  un : ∀ i, i ∉ os → Un s s1 i
  topo : ∀ p i q, os = p ++ i :: q → ∀ f ∈ (nd l i).fr, (nd l f.toNat).op = 0 ∨ f.toNat ∈ p
theorem Mid.fr {l : List NodeD} {want : Nat → Bool} {now : Nat} {s s1 : St} {os : List Nat} (h : Mid l want now s s1 os) {i : Nat} (hi : i ∈ os) : ∀ f ∈ (nd l i).fr, (nd l f.toNat).op = 0 ∨ f.toNat ∈ os := by
  intro f hf
  obtain ⟨p, q, rfl⟩ := List.append_of_mem hi
  rcases h.topo p i q rfl f hf with h1 | h1
  · exact .inl h1
  · exact .inr (List.mem_append_left _ h1)
theorem Mid.step {l : List NodeD} (hok : Ok l) {want : Nat → Bool} (hw : WOk l want) {now : Nat} {s s1 : St} {os : List Nat} (h : Mid l want now s s1 os) (hL : ∀ i, s.L i < now) {j : Nat} (hr : rdyB l want s1 now j = true) :
    Mid l want now s (lookS l now s1 j) (os ++ [j]) ∧ doneS l now s1 j = dnN l now s (lookS l now s1 j) j := by
  obtain ⟨hwj, hjL, hjf⟩ := rdy_iff.1 hr
  have hjl := hw.lt j hwj
  have hjo : j ∉ os := fun hj => by have := (h.lk j hj).L; omega
  have hju := h.un j hjo
  have hfj : ∀ f ∈ (nd l j).fr, f.toNat ≠ j := fun f hf => by
    rw [nd_eq hjl] at hf; have := hok.fr j hjl f hf; omega
  have eL : ∀ i, i ≠ j → (lookS l now s1 j).L i = s1.L i := fun i hi => by rw [lookS_L, upd_ne _ _ hi]
  have eW : ∀ i, i ≠ j → (lookS l now s1 j).W i = s1.W i := fun i hi => by unfold lookS; split <;> simp only [upd_ne _ _ hi]
  have eO : ∀ i, i ≠ j → (lookS l now s1 j).O i = s1.O i := fun i hi => by
    unfold lookS; split
    · simp only; split
      · exact upd_ne _ _ hi
      · rfl
    · rfl
  have hold : oldN l s (lookS l now s1 j) j = oldS (nd l j) s1 j := by
    rw [oldN_congr (s2 := s1) (fun f hf => eO _ (hfj f hf))]
    unfold oldN oldS; rw [hju.L]
  have hoth : othN l s (lookS l now s1 j) j = otherS l s1 j := by
    rw [othN_congr (s2 := s1) (fun f hf => eW _ (hfj f hf))]
    unfold othN otherS; rw [hju.L, hju.W]
  have hcomp : comp (nd l j) (lookS l now s1 j).W = comp (nd l j) s1.W := comp_congr fun f hf => eW _ (hfj f hf)
  refine ⟨⟨?_, ?_, ?_, ?_, ?_⟩, ?_⟩
  · rw [List.nodup_append]
    exact ⟨h.dup, by simp, fun a ha b hb => by rw [List.mem_singleton] at hb; subst hb; intro e; exact hjo (e ▸ ha)⟩
  · intro i hi
    rcases List.mem_append.1 hi with hi | hi
    · exact h.want i hi
    · rw [List.mem_singleton.1 hi]; exact hwj
  · intro i hi
    rcases List.mem_append.1 hi with hi | hi
    · have hij : i ≠ j := fun e => hjo (e ▸ hi)
      have hk := h.lk i hi
      have hff : ∀ f ∈ (nd l i).fr, f.toNat ≠ j := fun f hf e => by
        rcases h.fr hi f hf with h1 | h1
        · exact hw.op j hwj (e ▸ h1)
        · exact hjo (e ▸ h1)
      have e1 : oldN l s (lookS l now s1 j) i = oldN l s s1 i := oldN_congr fun f hf => eO _ (hff f hf)
      have e2 : othN l s (lookS l now s1 j) i = othN l s s1 i := othN_congr fun f hf => eW _ (hff f hf)
      have e3 : comp (nd l i) (lookS l now s1 j).W = comp (nd l i) s1.W := comp_congr fun f hf => eW _ (hff f hf)
      exact ⟨by rw [eL i hij, hk.L], by rw [eW i hij, e1, e3, hk.W], by rw [eO i hij, e1, e2, hk.O]⟩
    · rw [List.mem_singleton.1 hi]
      refine ⟨by rw [lookS_L, upd_same], ?_, ?_⟩
      · rw [hold, hcomp]; unfold lookS
        by_cases ho : oldS (nd l j) s1 j = true
        · rw [if_pos ho, if_pos ho]; simp only [upd_same]
        · rw [if_neg ho, if_neg ho]; exact hju.W
      · rw [hold, hoth]; unfold lookS
        by_cases ho : oldS (nd l j) s1 j = true
        · rw [if_pos ho]; simp only
          by_cases hx : otherS l s1 j = true
          · rw [if_pos hx, if_pos ⟨ho, hx⟩, upd_same]
          · rw [if_neg hx, if_neg (fun hh => hx hh.2)]; exact hju.O
        · rw [if_neg ho, if_neg (fun hh => ho hh.1)]; exact hju.O
  · intro i hi
    have hij : i ≠ j := fun e => hi (by rw [e]; simp)
    have hk := h.un i (fun hh => hi (List.mem_append_left _ hh))
    exact ⟨by rw [eL i hij, hk.L], by rw [eW i hij, hk.W], by rw [eO i hij, hk.O]⟩
  · intro p i q hpq f hf
    rcases List.eq_nil_or_concat q with rfl | ⟨q', x, rfl⟩
    · have e := List.append_inj' hpq (by simp)
      have e2 : j = i := by simpa using e.2
      subst e2
      rw [← e.1]
      have := hjf f hf
      unfold freeB at this
      rw [Bool.or_eq_true, decide_eq_true_eq, decide_eq_true_eq] at this
      rcases this with h1 | h1
      · exact .inl h1
      · refine .inr (Classical.byContradiction fun hn => ?_)
        have := (h.un _ hn).L
        have := hL f.toNat
        omega
    · rw [List.concat_eq_append] at hpq
      have e : os = p ++ i :: q' := by
        have := List.append_inj' (s₁ := os) (t₁ := [j]) (s₂ := p ++ i :: q') (t₂ := [x]) (by rw [hpq]; simp) (by simp)
        exact this.1
      exact h.topo p i q' e f hf
  · unfold doneS dnN
    rw [hold, hoth, hcomp]
theorem filter_head {n m : Nat} {p : Nat → Bool} (hm : m < n) (hp : p m = true) : ((List.range n).filter p).getD 0 0 ≤ m := by
  have hs : ((List.range n).filter p).Pairwise (· < ·) := List.pairwise_lt_range.filter p
  have hmem : m ∈ (List.range n).filter p := List.mem_filter.2 ⟨List.mem_range.2 hm, hp⟩
  generalize (List.range n).filter p = r at hs hmem
  cases r with
  | nil => cases hmem
  | cons a r =>
    rw [List.pairwise_cons] at hs
    show a ≤ m
    rcases List.mem_cons.1 hmem with h | h
    · omega
    · have := hs.1 m h; omega
theorem Mid.least {l : List NodeD} (hok : Ok l) {want : Nat → Bool} (hw : WOk l want) {now : Nat} {s s1 : St} {os : List Nat} (h : Mid l want now s s1 os) (hL : ∀ i, s.L i < now) {pick : List Int} (hp : pick.length = 0) : ∀ i, want i = true → i ∉ os → nextS pick s1 (readyS l want s1 now) ≤ i := by
  intro i
  induction i using Nat.strongRecOn with
  | ind i ih =>
  intro hi hn
  have hil := hw.lt i hi
  by_cases hr : rdyB l want s1 now i = true
  · have e : nextS pick s1 (readyS l want s1 now) = (readyS l want s1 now).getD 0 0 := by unfold nextS whichS; rw [if_pos hp]
    rw [e]; exact filter_head hil hr
  · have : ∃ f ∈ (nd l i).fr, freeB l s1 now f ≠ true := by
      refine Classical.byContradiction fun hx => hr (rdy_iff.2 ⟨hi, by rw [(h.un i hn).L]; exact hL i, fun f hf => Classical.byContradiction fun hy => hx ⟨f, hf, hy⟩⟩)
    obtain ⟨f, hf, hfb⟩ := this
    unfold freeB at hfb
    rw [ne_eq, Bool.or_eq_true, decide_eq_true_eq, decide_eq_true_eq, not_or] at hfb
    have hwf := (hw.fr i hi f hf).resolve_left hfb.1
    have hfo : f.toNat ∉ os := fun hm => hfb.2 (h.lk _ hm).L
    rw [nd_eq hil] at hf
    have := hok.fr i hil f hf
    have := ih f.toNat (by omega) hwf hfo
    omega
/-- The looks of an instant from where one stands. -/
theorem runI_mid {l : List NodeD} (hok : Ok l) {want : Nat → Bool} (hw : WOk l want) {now : Nat} {pick : List Int} {s : St} (hL : ∀ i, s.L i < now) : ∀ f s1 os, Mid l want now s s1 os → unl l s1 now ≤ f →
    ∃ os2, Mid l want now s (runI l want now pick f s1).2.2 (os ++ os2) ∧ (runI l want now pick f s1).1 = os2.flatMap (dnN l now s (runI l want now pick f s1).2.2) ∧ (runI l want now pick f s1).2.1 = os2.length ∧ (readyS l want (runI l want now pick f s1).2.2 now).length = 0 ∧ (pick.length = 0 → os2.Pairwise (· < ·))
  | 0, s1, os, h, hu => by
    refine ⟨[], by simpa [runI] using h, rfl, rfl, ?_, fun _ => List.Pairwise.nil⟩
    by_cases hr : (readyS l want s1 now).length = 0
    · exact hr
    · have := ready_unl hr; omega
  | f + 1, s1, os, h, hu => by
    by_cases hr : (readyS l want s1 now).length = 0
    · rw [runI_stop hr]
      exact ⟨[], by simpa using h, rfl, rfl, hr, fun _ => List.Pairwise.nil⟩
    · rw [runI_go hr]
      have hjm := nextS_mem (pick := pick) (s := s1) hr
      have hle := h.least hok hw hL (pick := pick)
      generalize nextS pick s1 (readyS l want s1 now) = j at hjm hle ⊢
      obtain ⟨hjl, hjr⟩ := ready_mem'.1 hjm
      have hjL := (rdy_iff.1 hjr).2.1
      obtain ⟨h2, hd⟩ := h.step hok hw hL hjr
      have hul := unl_look (now := now) hjl hjL
      obtain ⟨os2, h3, h4, h5, h6, h7⟩ := runI_mid hok hw hL f (lookS l now s1 j) (os ++ [j]) h2 (by omega)
      refine ⟨j :: os2, by simpa [List.append_assoc] using h3, ?_, by simp only [h5, List.length_cons], h6, fun hp => List.pairwise_cons.2 ⟨fun i hi => ?_, h7 hp⟩⟩
      rotate_left
      · have hnd := (List.nodup_append.1 h3.dup).2.2
        have hno : i ∉ os ++ [j] := fun hm => hnd i hm i hi rfl
        have hij : i ≠ j := fun e => hno (by rw [e]; simp)
        have := hle hp i (h3.want i (List.mem_append_right _ hi)) (fun hm => hno (List.mem_append_left _ hm))
        omega
      simp only [List.flatMap_cons]
      rw [← h4, hd]
      congr 1
      have hj2 : j ∈ os ++ [j] := by simp
      have hz : ∀ i, (i ∈ os ++ [j] ∨ (nd l i).op = 0) → (runI l want now pick f (lookS l now s1 j)).2.2.W i = (lookS l now s1 j).W i ∧ (runI l want now pick f (lookS l now s1 j)).2.2.O i = (lookS l now s1 j).O i := by
        intro i
        induction i using Nat.strongRecOn with
        | ind i ih =>
        intro hi
        by_cases hio : i ∈ os ++ [j]
        · have a := h2.lk i hio
          have b := h3.lk i (List.mem_append_left _ hio)
          have hil := hw.lt i (h2.want i hio)
          have hf : ∀ g ∈ (nd l i).fr, (runI l want now pick f (lookS l now s1 j)).2.2.W g.toNat = (lookS l now s1 j).W g.toNat ∧ (runI l want now pick f (lookS l now s1 j)).2.2.O g.toNat = (lookS l now s1 j).O g.toNat := fun g hg => by
            have hg2 := hg
            rw [nd_eq hil] at hg2
            have := hok.fr i hil g hg2
            exact ih g.toNat (by omega) ((h2.fr hio g hg).symm)
          have e1 := oldN_congr (s := s) (fun g hg => (hf g hg).2)
          have e2 := othN_congr (s := s) (fun g hg => (hf g hg).1)
          have e3 := comp_congr (fun g hg => (hf g hg).1)
          exact ⟨by rw [a.W, b.W, e1, e3], by rw [a.O, b.O, e1, e2]⟩
        · have h0 := hi.resolve_left hio
          have a := h2.un i hio
          have b := h3.un i (fun hh => hw.op i (h3.want i hh) h0)
          exact ⟨by rw [a.W, b.W], by rw [a.O, b.O]⟩
      exact dnN_congr (fun g hg => ((hz _ ((h2.fr hj2 g hg).symm)).2).symm) (fun g hg => ((hz _ ((h2.fr hj2 g hg).symm)).1).symm)
/-- A whole instant. -/
structure Inst (l : List NodeD) (want : Nat → Bool) (now : Nat) (s : St) (z : List DoneD × Nat × St) (os : List Nat) : Prop where
  mid : Mid l want now s z.2.2 os
  dn : z.1 = os.flatMap (dnN l now s z.2.2)
  cnt : z.2.1 = os.length
  all : ∀ i, want i = true → i ∈ os
theorem runI_inst {l : List NodeD} (hok : Ok l) {want : Nat → Bool} (hw : WOk l want) {now : Nat} {pick : List Int} {s : St} (hL : ∀ i, s.L i < now) : ∃ os, Inst l want now s (runI l want now pick l.length s) os ∧ (pick.length = 0 → os.Pairwise (· < ·)) := by
  have h0 : Mid l want now s s [] := ⟨List.nodup_nil, by simp, by simp, fun i _ => ⟨rfl, rfl, rfl⟩, fun p i q h => by simp at h⟩
  obtain ⟨os, h1, h2, h3, h4, h5⟩ := runI_mid hok hw hL (pick := pick) l.length s [] h0 (unl_le _ _ _)
  rw [List.nil_append] at h1
  refine ⟨os, ⟨h1, h2, h3, fun i => ?_⟩, h5⟩
  induction i using Nat.strongRecOn with
  | ind i ih =>
  intro hi
  refine Classical.byContradiction fun hn => ?_
  have hil := hw.lt i hi
  have hm : i ∈ readyS l want (runI l want now pick l.length s).2.2 now := by
    refine ready_mem'.2 ⟨hil, rdy_iff.2 ⟨hi, by rw [(h1.un i hn).L]; exact hL i, fun f hf => ?_⟩⟩
    unfold freeB
    rw [Bool.or_eq_true, decide_eq_true_eq, decide_eq_true_eq]
    rcases hw.fr i hi f hf with h | h
    · exact .inl h
    · have hf2 := hf
      rw [nd_eq hil] at hf2
      have := hok.fr i hil f hf2
      exact .inr (h1.lk _ (ih f.toNat (by omega) h)).L
  rw [List.length_eq_zero_iff.1 h4] at hm
  simp at hm
/-- What an instant leads to does not depend on the order. -/
theorem Inst.same {l : List NodeD} (hok : Ok l) {want : Nat → Bool} (hw : WOk l want) {now : Nat} {s : St} {z y : List DoneD × Nat × St} {os ps : List Nat} (h : Inst l want now s z os) (g : Inst l want now s y ps) :
    (∀ i, z.2.2.W i = y.2.2.W i ∧ z.2.2.O i = y.2.2.O i ∧ z.2.2.L i = y.2.2.L i) ∧ os.Perm ps ∧ z.2.1 = y.2.1 ∧ z.1.Perm y.1 := by
  have key : ∀ i, z.2.2.W i = y.2.2.W i ∧ z.2.2.O i = y.2.2.O i ∧ z.2.2.L i = y.2.2.L i := by
    intro i
    induction i using Nat.strongRecOn with
    | ind i ih =>
    by_cases hi : want i = true
    · have a := h.mid.lk i (h.all i hi)
      have b := g.mid.lk i (g.all i hi)
      have hil := hw.lt i hi
      have hf : ∀ q ∈ (nd l i).fr, z.2.2.W q.toNat = y.2.2.W q.toNat ∧ z.2.2.O q.toNat = y.2.2.O q.toNat := fun q hq => by
        rw [nd_eq hil] at hq
        have := hok.fr i hil q hq
        exact ⟨(ih q.toNat (by omega)).1, (ih q.toNat (by omega)).2.1⟩
      have e1 := oldN_congr (s := s) (fun q hq => (hf q hq).2)
      have e2 := othN_congr (s := s) (fun q hq => (hf q hq).1)
      have e3 := comp_congr (fun q hq => (hf q hq).1)
      exact ⟨by rw [a.W, b.W, e1, e3], by rw [a.O, b.O, e1, e2], by rw [a.L, b.L]⟩
    · have a := h.mid.un i (fun hh => hi (h.mid.want i hh))
      have b := g.mid.un i (fun hh => hi (g.mid.want i hh))
      exact ⟨by rw [a.W, b.W], by rw [a.O, b.O], by rw [a.L, b.L]⟩
  have hp : os.Perm ps := (List.perm_ext_iff_of_nodup h.mid.dup g.mid.dup).2 fun i => ⟨fun hi => g.all i (h.mid.want i hi), fun hi => h.all i (g.mid.want i hi)⟩
  refine ⟨key, hp, by rw [h.cnt, g.cnt, hp.length_eq], ?_⟩
  rw [h.dn, g.dn]
  have e : dnN l now s z.2.2 = dnN l now s y.2.2 := by
    funext i; exact dnN_congr (fun f _ => (key _).2.1) (fun f _ => (key _).1)
  rw [e]; exact hp.flatMap_right _
end Go.Proofs.YtefkmiomldhmjaaDoor
/- A run: its words are those from scratch. -/
namespace Go.Proofs.YtefkmiomldhmjaaDoor
open Go.Sl
instance : Inhabited InstD := ⟨⟨none, [], 0, none, [], 0⟩⟩
def UP (l : List NodeD) (all : List InstD) (k : Nat) : Nat → Int := (all.take k).foldl (fun W x => setsF W x.sets) (startS l).W
def VP (l : List NodeD) (all : List InstD) (k : Nat) : Nat → Int := finW l (UP l all k)
def ia (all : List InstD) (k : Nat) : InstD := all.getD k default
theorem ia_eq {all : List InstD} {k : Nat} (h : k < all.length) : ia all k = all[k] := by simp [ia, List.getD_eq_getElem?_getD, h]
theorem UP_succ (l : List NodeD) {all : List InstD} {k : Nat} (h : k < all.length) : UP l all (k + 1) = setsF (UP l all k) (ia all k).sets := by
  unfold UP; rw [List.take_succ_eq_append_getElem h, List.foldl_append, ia_eq h]; rfl
theorem setsF_congr {i : Nat} : ∀ {sets : List SetD} {W V : Nat → Int}, W i = V i → setsF W sets i = setsF V sets i
  | [], _, _, h => h
  | x :: r, W, V, h => setsF_congr (sets := r) (W := upd W x.node.toNat x.word) (V := upd V x.node.toNat x.word) (by
      unfold upd; split
      · rfl
      · exact h)
theorem setsF_non {i : Nat} : ∀ {sets : List SetD} {W : Nat → Int}, (∀ x ∈ sets, x.node.toNat ≠ i) → setsF W sets i = W i
  | [], _, _ => rfl
  | x :: r, W, h => by
    have := setsF_non (sets := r) (W := upd W x.node.toNat x.word) (i := i) (fun y hy => h y (List.mem_cons_of_mem _ hy))
    show setsF (upd W x.node.toNat x.word) r i = W i
    rw [this, upd_ne _ _ (fun e => h x List.mem_cons_self e.symm)]
structure Inv (l : List NodeD) (all : List InstD) (k : Nat) (s : St) : Prop where
  L : ∀ i, s.L i < k
  O : ∀ i, s.O i < k
  inp : ∀ i, (nd l i).op = 0 → s.W i = UP l all k i
  non : ∀ i, i < l.length → (nd l i).op ≠ 0 → 0 ≤ s.L i → s.W i = VP l all ((s.L i).toNat + 1) i
  rd : ∀ i, i < l.length → (nd l i).op ≠ 0 → 0 ≤ s.L i → ∀ f ∈ (nd l i).fr, s.O f.toNat ≤ s.L i → s.W f.toNat = VP l all ((s.L i).toNat + 1) f.toNat
theorem Inv.start (l : List NodeD) (all : List InstD) : Inv l all 0 (startS l) := by
  have hL : ∀ i, (startS l).L i = -1 := fun _ => rfl
  have hO : ∀ i, (startS l).O i = -1 := fun _ => rfl
  refine ⟨fun i => by rw [hL]; decide, fun i => by rw [hO]; decide, fun i _ => rfl, fun i _ _ h => ?_, fun i _ _ h => ?_⟩
  · rw [hL] at h; omega
  · rw [hL] at h; omega
theorem after_W {x : InstD} {now : Nat} {s : St} : (afterSets x now s).W = setsF s.W x.sets := rfl
theorem after_L {x : InstD} {now : Nat} {s : St} : (afterSets x now s).L = s.L := rfl
theorem after_O {x : InstD} {now : Nat} {s : St} {i : Nat} : (afterSets x now s).O i = if setsF s.W x.sets i ≠ s.W i then (now : Int) else s.O i := rfl
theorem after_non {l : List NodeD} {x : InstD} {now : Nat} {s : St} (hs : setsOk l x.sets = true) {i : Nat} (h : (nd l i).op ≠ 0) : (afterSets x now s).W i = s.W i ∧ (afterSets x now s).O i = s.O i := by
  have : setsF s.W x.sets i = s.W i := setsF_non fun y hy e => by
    have := (setsOk_get hs hy).2.1
    rw [e] at this; exact h this
  exact ⟨by rw [after_W, this], by rw [after_O, this, if_neg (by simp)]⟩
theorem Inv.step {l : List NodeD} (hok : Ok l) {all : List InstD} {k : Nat} {s : St} (h : Inv l all k s) (hk : k < all.length) (hs : setsOk l (ia all k).sets = true) {want : Nat → Bool} (hw : WOk l want) {z : List DoneD × Nat × St} {os : List Nat}
    (hz : Inst l want k (afterSets (ia all k) k s) z os) : Inv l all (k + 1) z.2.2 ∧ (∀ i, ((nd l i).op = 0 ∨ want i = true) → z.2.2.W i = VP l all (k + 1) i) := by
  have hno : ∀ i, (nd l i).op = 0 → i ∉ os := fun i h0 hi => hw.op i (hz.mid.want i hi) h0
  have hin : ∀ i, (nd l i).op = 0 → z.2.2.W i = UP l all (k + 1) i := fun i h0 => by
    rw [(hz.mid.un i (hno i h0)).W, after_W, UP_succ l hk]
    exact setsF_congr (h.inp i h0)
  have hV0 : ∀ i, (nd l i).op = 0 → VP l all (k + 1) i = UP l all (k + 1) i := fun i h0 => fin_in h0
  -- a read node that did not turn behind an instant
  have hst : ∀ f (t : Int), t < k → z.2.2.O f ≤ t → z.2.2.W f = s.W f ∧ s.O f ≤ t := fun f t ht hO => by
    by_cases hf : f ∈ os
    · have a := hz.mid.lk f hf
      have hop := hw.op f (hz.mid.want f hf)
      obtain ⟨e1, e2⟩ := after_non (now := k) (s := s) hs hop
      rw [a.O] at hO
      rw [a.W]
      by_cases ho : oldN l (afterSets (ia all k) k s) z.2.2 f = true
      · by_cases hx : othN l (afterSets (ia all k) k s) z.2.2 f = true
        · rw [if_pos ⟨ho, hx⟩] at hO; omega
        · rw [if_neg (fun hh => hx hh.2), e2] at hO
          rw [if_pos ho]
          refine ⟨?_, hO⟩
          unfold othN at hx
          simp only [Bool.or_eq_true, decide_eq_true_eq, not_or, Classical.not_not, ne_eq] at hx
          rw [hx.2, e1]
      · rw [if_neg (fun hh => ho hh.1), e2] at hO
        rw [if_neg ho, e1]; exact ⟨rfl, hO⟩
    · have a := hz.mid.un f hf
      rw [a.O, after_O] at hO
      rw [a.W, after_W]
      by_cases hx : setsF s.W (ia all k).sets f ≠ s.W f
      · rw [if_pos hx] at hO; omega
      · rw [if_neg hx] at hO; exact ⟨Classical.not_not.1 hx, hO⟩
  have key : ∀ i, want i = true → z.2.2.W i = VP l all (k + 1) i := by
    intro i
    induction i using Nat.strongRecOn with
    | ind i ih =>
    intro hi
    have hil := hw.lt i hi
    have hop := hw.op i hi
    have a := hz.mid.lk i (hz.all i hi)
    have hfr : ∀ f ∈ (nd l i).fr, z.2.2.W f.toNat = VP l all (k + 1) f.toNat := fun f hf => by
      rcases hw.fr i hi f hf with h0 | h0
      · rw [hin _ h0, hV0 _ h0]
      · rw [nd_eq hil] at hf
        have := hok.fr i hil f hf
        exact ih f.toNat (by omega) h0
    have hc : comp (nd l i) z.2.2.W = VP l all (k + 1) i := by rw [comp_congr hfr]; exact (fin_op hok hil hop).symm
    rw [a.W]
    by_cases ho : oldN l (afterSets (ia all k) k s) z.2.2 i = true
    · rw [if_pos ho, hc]
    · rw [if_neg ho]
      unfold oldN at ho
      simp only [Bool.or_eq_true, List.any_eq_true, decide_eq_true_eq, not_or, not_exists, not_and] at ho
      rw [after_L] at ho
      have hL := h.L i
      obtain ⟨e1, e2⟩ := after_non (now := k) (s := s) hs hop
      rw [e1, h.non i hil hop (by omega)]
      have hsame : ∀ f ∈ (nd l i).fr, VP l all ((s.L i).toNat + 1) f.toNat = VP l all (k + 1) f.toNat := fun f hf => by
        have h1 := hst f.toNat (s.L i) hL (by have := ho.1 f hf; omega)
        rw [← hfr f hf, h1.1, h.rd i hil hop (by omega) f hf h1.2]
      rw [← hc, comp_congr hfr, ← comp_congr hsame]
      exact fin_op hok hil hop
  refine ⟨⟨fun i => ?_, fun i => ?_, hin, fun i hil hop hL => ?_, fun i hil hop hL f hf hO => ?_⟩, fun i hi => ?_⟩
  · by_cases hi : i ∈ os
    · rw [(hz.mid.lk i hi).L]; omega
    · rw [(hz.mid.un i hi).L, after_L]; have := h.L i; omega
  · by_cases hi : i ∈ os
    · rw [(hz.mid.lk i hi).O, after_O]; have := h.O i; split
      · omega
      · split <;> omega
    · rw [(hz.mid.un i hi).O, after_O]; have := h.O i; split <;> omega
  · by_cases hi : i ∈ os
    · rw [(hz.mid.lk i hi).L, Int.toNat_natCast]; exact key i (hz.mid.want i hi)
    · have a := hz.mid.un i hi
      rw [a.L, after_L] at hL ⊢
      rw [a.W, (after_non hs hop).1]; exact h.non i hil hop hL
  · by_cases hi : i ∈ os
    · rw [(hz.mid.lk i hi).L, Int.toNat_natCast]
      rcases hw.fr i (hz.mid.want i hi) f hf with h0 | h0
      · rw [hin _ h0, hV0 _ h0]
      · exact key _ h0
    · have a := hz.mid.un i hi
      rw [a.L, after_L] at hL hO ⊢
      have hLk := h.L i
      have h1 := hst f.toNat (s.L i) hLk hO
      rw [h1.1]; exact h.rd i hil hop hL f hf h1.2
  · rcases hi with h0 | h0
    · rw [hin _ h0, hV0 _ h0]
    · exact key i h0
/-! A run, instant by instant -/
noncomputable def stAt (l : List NodeD) (pick : List Int) (all : List InstD) : Nat → St
  | 0 => startS l
  | k + 1 => (instS l (ia all k) k pick (stAt l pick all k)).2.2
noncomputable def zAt (l : List NodeD) (pick : List Int) (all : List InstD) (k : Nat) : List DoneD × Nat × St := instS l (ia all k) k pick (stAt l pick all k)
theorem stAt_succ (l : List NodeD) (pick : List Int) (all : List InstD) (k : Nat) : stAt l pick all (k + 1) = (zAt l pick all k).2.2 := rfl
theorem allS_at (l : List NodeD) (pick : List Int) (all : List InstD) : ∀ m k, k + m = all.length → allS l pick (all.drop k) k (stAt l pick all k) = ((List.range' k m).flatMap fun q => (zAt l pick all q).1, ((List.range' k m).map fun q => (zAt l pick all q).2.1).sum, (List.range' k m).map fun q => (zAt l pick all q).2.2.W)
  | 0, k, h => by rw [List.drop_eq_nil_of_le (by omega)]; simp [allS]
  | m + 1, k, h => by
    have hk : k < all.length := by omega
    rw [drop_step hk, allS]
    have ih := allS_at l pick all m (k + 1) (by omega)
    have e : instS l all[k] k pick (stAt l pick all k) = zAt l pick all k := by unfold zAt; rw [ia_eq hk]
    simp only [e]
    rw [← stAt_succ, ih]
    simp [List.range'_succ]; rfl
theorem told_at (l : List NodeD) (pick : List Int) (all : List InstD) : toldS l all pick = ((List.range all.length).flatMap fun q => (zAt l pick all q).1, ((List.range all.length).map fun q => (zAt l pick all q).2.1).sum, (List.range all.length).map fun q => (zAt l pick all q).2.2.W) := by
  have := allS_at l pick all all.length 0 (by omega)
  rw [List.drop_zero] at this
  unfold toldS
  rw [show startS l = stAt l pick all 0 from rfl, this, List.range_eq_range']
/-- What a run of valid nodes and instants is. -/
structure Rn (l : List NodeD) (all : List InstD) : Prop where
  ok : Ok l
  io : ∀ k, k < all.length → instE l (ia all k) = 0
theorem Rn.of {l : List NodeD} {all : List InstD} {pick : List Int} (h : checkS l all pick = 0) : Rn l all := by
  have hva : valid l = true := by
    unfold checkS at h; split at h
    · assumption
    · omega
  rw [checkS_rest hva] at h
  exact ⟨ok_of hva, fun k hk => by rw [ia_eq hk]; exact (restE_ok h).2.2.2 k hk⟩
theorem Rn.inv {l : List NodeD} {all : List InstD} (h : Rn l all) (pick : List Int) : ∀ k, k ≤ all.length → Inv l all k (stAt l pick all k)
  | 0, _ => Inv.start l all
  | k + 1, hk => by
    have ih := h.inv pick k (by omega)
    have hw := wantS_ok h.ok (ia all k).asks
    obtain ⟨os, ho, _⟩ := runI_inst h.ok hw (pick := pick) (now := k) (s := afterSets (ia all k) k (stAt l pick all k)) (fun i => by rw [after_L]; exact ih.L i)
    exact (ih.step h.ok (by omega) (instE_ok (h.io k (by omega))).2.2.1 hw (z := zAt l pick all k) ho).1
theorem Rn.inst {l : List NodeD} {all : List InstD} (h : Rn l all) (pick : List Int) {k : Nat} (hk : k < all.length) : ∃ os, Inst l (wantS l (ia all k).asks) k (afterSets (ia all k) k (stAt l pick all k)) (zAt l pick all k) os ∧ (pick.length = 0 → os.Pairwise (· < ·)) :=
  runI_inst h.ok (wantS_ok h.ok _) (fun i => by rw [after_L]; exact (h.inv pick k (by omega)).L i)
theorem Rn.word {l : List NodeD} {all : List InstD} (h : Rn l all) (pick : List Int) {k : Nat} (hk : k < all.length) {i : Nat} (hi : (nd l i).op = 0 ∨ wantS l (ia all k).asks i = true) : (zAt l pick all k).2.2.W i = VP l all (k + 1) i := by
  obtain ⟨os, ho, _⟩ := h.inst pick hk
  exact ((h.inv pick k (by omega)).step h.ok hk (instE_ok (h.io k hk)).2.2.1 (wantS_ok h.ok _) ho).2 i hi
/-- What is computed in an instant. -/
theorem Rn.done {l : List NodeD} {all : List InstD} (h : Rn l all) (pick : List Int) {k : Nat} (hk : k < all.length) {d : DoneD} (hd : d ∈ (zAt l pick all k).1) : d.inst = k ∧ ∃ i : Nat, d.node = i ∧ i < l.length ∧ wantS l (ia all k).asks i = true ∧ d.word = VP l all (k + 1) i := by
  obtain ⟨os, ho, _⟩ := h.inst pick hk
  rw [ho.dn] at hd
  obtain ⟨i, hi, hd⟩ := List.mem_flatMap.1 hd
  unfold dnN at hd
  split at hd
  · rename_i hold
    rw [List.mem_singleton] at hd
    subst hd
    have hwi := ho.mid.want i hi
    refine ⟨rfl, i, rfl, (wantS_ok h.ok _).lt i hwi, hwi, ?_⟩
    rw [← h.word pick hk (.inr hwi), (ho.mid.lk i hi).W, if_pos hold]
  · cases hd
theorem Rn.of_done {l : List NodeD} {all : List InstD} (h : Rn l all) (pick : List Int) {d : DoneD} (hd : d ∈ (toldS l all pick).1) : ∃ k, k < all.length ∧ d ∈ (zAt l pick all k).1 ∧ d.inst = k := by
  rw [told_at] at hd
  obtain ⟨k, hk, hd⟩ := List.mem_flatMap.1 hd
  have hk2 := List.mem_range.1 hk
  exact ⟨k, hk2, hd, (h.done pick hk2 hd).1⟩
end Go.Proofs.YtefkmiomldhmjaaDoor
/- What is computed: behind what it reads; by any order; no more than need be. -/
namespace Go.Proofs.YtefkmiomldhmjaaDoor
open Go.Sl
theorem pw_split {α : Type} {R : α → α → Prop} : ∀ {os : List α}, (∀ p i q, os = p ++ i :: q → ∀ j ∈ q, R i j) → os.Pairwise R
  | [], _ => List.Pairwise.nil
  | i :: q, h => List.pairwise_cons.2 ⟨h [] i q rfl, pw_split fun p j r e => h (i :: p) j r (by rw [e]; rfl)⟩
theorem Mid.behind {l : List NodeD} {want : Nat → Bool} (hw : WOk l want) {now : Nat} {s s1 : St} {os : List Nat} (h : Mid l want now s s1 os) (_hok : Ok l) : os.Pairwise fun i j => i ≠ j ∧ (j : Int) ∉ (nd l i).fr := by
  refine pw_split fun p i q e j hj => ?_
  have hd := h.dup
  rw [e, List.nodup_append, List.nodup_cons] at hd
  have hji : i ≠ j := fun x => hd.2.1.1 (x ▸ hj)
  refine ⟨hji, fun hf => ?_⟩
  have hjw : want j = true := h.want j (by rw [e]; simp [hj])
  rcases h.topo p i q e _ hf with h0 | h0
  · exact hw.op j hjw h0
  · exact hd.2.2 j h0 j (List.mem_cons_of_mem _ hj) rfl
/-- What is told of two entries, one ahead of the other one. -/
def Beh (l : List NodeD) (d x : DoneD) : Prop := d.inst ≤ x.inst ∧ (x.inst = d.inst → x.node ≠ d.node ∧ x.node ∉ (nd l d.node.toNat).fr)
theorem dnN_mem {l : List NodeD} {now : Nat} {s s' : St} {i : Nat} {d : DoneD} (h : d ∈ dnN l now s s' i) : d.inst = now ∧ d.node = i ∧ oldN l s s' i = true ∧ d.word = comp (nd l i) s'.W ∧ d.other = othN l s s' i := by
  unfold dnN at h; split at h
  · rw [List.mem_singleton] at h; subst h; rename_i ho; exact ⟨rfl, rfl, ho, rfl, rfl⟩
  · cases h
theorem dnN_len {l : List NodeD} {now : Nat} {s s' : St} {i : Nat} : (dnN l now s s' i).Pairwise (Beh l) := by
  unfold dnN; split
  · exact List.pairwise_singleton _ _
  · exact List.Pairwise.nil
theorem Rn.behind {l : List NodeD} {all : List InstD} (h : Rn l all) (pick : List Int) : (toldS l all pick).1.Pairwise (Beh l) := by
  rw [told_at]
  simp only
  rw [List.pairwise_flatMap]
  refine ⟨fun k hk => ?_, ?_⟩
  · have hk2 := List.mem_range.1 hk
    obtain ⟨os, ho, _⟩ := h.inst pick hk2
    rw [ho.dn, List.pairwise_flatMap]
    refine ⟨fun i _ => dnN_len, (ho.mid.behind (wantS_ok h.ok _) h.ok).imp fun {i j} hij d hd x hx => ?_⟩
    have a := dnN_mem hd
    have b := dnN_mem hx
    refine ⟨by rw [a.1, b.1]; omega, fun _ => ⟨by rw [a.2.1, b.2.1]; omega, ?_⟩⟩
    rw [a.2.1, b.2.1, Int.toNat_natCast]; exact hij.2
  · refine (List.pairwise_lt_range).imp_of_mem fun {k q} hk hq hkq d hd x hx => ?_
    have a := (h.done pick (List.mem_range.1 hk) hd).1
    have b := (h.done pick (List.mem_range.1 hq) hx).1
    exact ⟨by rw [a, b]; omega, fun e => by rw [a, b] at e; omega⟩
/-- Without a script nodes rise. -/
theorem Rn.rise {l : List NodeD} {all : List InstD} (h : Rn l all) {pick : List Int} (hp : pick.length = 0) : (toldS l all pick).1.Pairwise fun d x => x.inst = d.inst → d.node < x.node := by
  rw [told_at]
  simp only
  rw [List.pairwise_flatMap]
  refine ⟨fun k hk => ?_, ?_⟩
  · have hk2 := List.mem_range.1 hk
    obtain ⟨os, ho, hri⟩ := h.inst pick hk2
    rw [ho.dn, List.pairwise_flatMap]
    refine ⟨fun i _ => ?_, (hri hp).imp fun {i j} hij d hd x hx => ?_⟩
    · unfold dnN; split
      · exact List.pairwise_singleton _ _
      · exact List.Pairwise.nil
    · have a := dnN_mem hd
      have b := dnN_mem hx
      intro _; rw [a.2.1, b.2.1]; omega
  · refine (List.pairwise_lt_range).imp_of_mem fun {k q} hk hq hkq d hd x hx => ?_
    have a := (h.done pick (List.mem_range.1 hk) hd).1
    have b := (h.done pick (List.mem_range.1 hq) hx).1
    intro e; rw [a, b] at e; omega
/-! By any two scripts -/
theorem Inst.used {l : List NodeD} {want : Nat → Bool} {now : Nat} {s s2 : St} {z : List DoneD × Nat × St} {os : List Nat} (h : Inst l want now s z os) (hW : s2.W = s.W) (hO : s2.O = s.O) (hL : s2.L = s.L) : Inst l want now s2 z os := by
  obtain ⟨W, O, L, u⟩ := s
  obtain ⟨W2, O2, L2, u2⟩ := s2
  simp only at hW hO hL
  subst hW; subst hO; subst hL
  exact ⟨⟨h.mid.dup, h.mid.want, fun i hi => ⟨(h.mid.lk i hi).L, (h.mid.lk i hi).W, (h.mid.lk i hi).O⟩, fun i hi => ⟨(h.mid.un i hi).L, (h.mid.un i hi).W, (h.mid.un i hi).O⟩, h.mid.topo⟩, h.dn, h.cnt, h.all⟩
theorem Rn.st_same {l : List NodeD} {all : List InstD} (h : Rn l all) (p q : List Int) : ∀ k, k ≤ all.length → (stAt l p all k).W = (stAt l q all k).W ∧ (stAt l p all k).O = (stAt l q all k).O ∧ (stAt l p all k).L = (stAt l q all k).L
  | 0, _ => ⟨rfl, rfl, rfl⟩
  | k + 1, hk => by
    obtain ⟨e1, e2, e3⟩ := h.st_same p q k (by omega)
    obtain ⟨os, ho, _⟩ := h.inst p (k := k) (by omega)
    obtain ⟨ps, hp, _⟩ := h.inst q (k := k) (by omega)
    have hp2 := hp.used (s2 := afterSets (ia all k) k (stAt l p all k)) (by rw [after_W, after_W, e1]) (by funext i; rw [after_O, after_O, e1, e2]) (by rw [after_L, after_L, e3])
    have hs := (ho.same h.ok (wantS_ok h.ok _) hp2).1
    rw [stAt_succ, stAt_succ]
    exact ⟨funext fun i => (hs i).1, funext fun i => (hs i).2.1, funext fun i => (hs i).2.2⟩
theorem Rn.z_same {l : List NodeD} {all : List InstD} (h : Rn l all) (p q : List Int) {k : Nat} (hk : k < all.length) : (zAt l p all k).2.1 = (zAt l q all k).2.1 ∧ (zAt l p all k).1.Perm (zAt l q all k).1 := by
  obtain ⟨e1, e2, e3⟩ := h.st_same p q k (by omega)
  obtain ⟨os, ho, _⟩ := h.inst p hk
  obtain ⟨ps, hp, _⟩ := h.inst q hk
  have hp2 := hp.used (s2 := afterSets (ia all k) k (stAt l p all k)) (by rw [after_W, after_W, e1]) (by funext i; rw [after_O, after_O, e1, e2]) (by rw [after_L, after_L, e3])
  exact (ho.same h.ok (wantS_ok h.ok _) hp2).2.2
theorem perm_flat {α β : Type} {f g : α → List β} : ∀ {l : List α}, (∀ x ∈ l, (f x).Perm (g x)) → (l.flatMap f).Perm (l.flatMap g)
  | [], _ => List.Perm.refl _
  | x :: r, h => by
    simp only [List.flatMap_cons]
    exact (h x List.mem_cons_self).append (perm_flat fun y hy => h y (List.mem_cons_of_mem _ hy))
theorem Rn.any {l : List NodeD} {all : List InstD} (h : Rn l all) (p q : List Int) : (toldS l all p).1.Perm (toldS l all q).1 ∧ (toldS l all p).2.1 = (toldS l all q).2.1 := by
  rw [told_at, told_at]
  refine ⟨perm_flat fun k hk => (h.z_same p q (List.mem_range.1 hk)).2, ?_⟩
  simp only
  congr 1
  exact List.map_congr_left fun k hk => (h.z_same p q (List.mem_range.1 hk)).1
/-! Nothing that need not be -/
def leadF (l : List NodeD) (all : List InstD) (now : Nat) : Nat → Bool :=
  (List.range l.length).foldl (fun o i => upd o i ((decide ((nd l i).op = 0) && decide (UP l all (now + 1) i ≠ UP l all now i)) || (nd l i).fr.any fun f => o f.toNat)) fun _ => false
theorem lead_lt {l : List NodeD} {g : (Nat → Bool) → Nat → Bool} {i : Nat} : ∀ k, i < k → (List.range k).foldl (fun o i => upd o i (g o i)) (fun _ => false) i = g ((List.range i).foldl (fun o i => upd o i (g o i)) fun _ => false) i
  | 0, h => by omega
  | k + 1, h => by
    rw [fold_succ]
    by_cases e : i = k
    · subst e; rw [upd_same]
    · rw [upd_ne _ _ e]; exact lead_lt (l := l) k (by omega)
theorem lead_eq {l : List NodeD} (hok : Ok l) {all : List InstD} {now i : Nat} (hi : i < l.length) : leadF l all now i = ((decide ((nd l i).op = 0) && decide (UP l all (now + 1) i ≠ UP l all now i)) || (nd l i).fr.any fun f => leadF l all now f.toNat) := by
  unfold leadF
  rw [lead_lt (l := l) (g := fun o i => (decide ((nd l i).op = 0) && decide (UP l all (now + 1) i ≠ UP l all now i)) || (nd l i).fr.any fun f => o f.toNat) _ hi]
  congr 1
  rw [Bool.eq_iff_iff, List.any_eq_true, List.any_eq_true]
  have key : ∀ f ∈ (nd l i).fr, (List.range i).foldl (fun o i => upd o i ((decide ((nd l i).op = 0) && decide (UP l all (now + 1) i ≠ UP l all now i)) || (nd l i).fr.any fun f => o f.toNat)) (fun _ => false) f.toNat = (List.range l.length).foldl (fun o i => upd o i ((decide ((nd l i).op = 0) && decide (UP l all (now + 1) i ≠ UP l all now i)) || (nd l i).fr.any fun f => o f.toNat)) (fun _ => false) f.toNat := fun f hf => by
    rw [nd_eq hi] at hf
    have := hok.fr i hi f hf
    rw [lead_lt (l := l) (g := fun o i => (decide ((nd l i).op = 0) && decide (UP l all (now + 1) i ≠ UP l all now i)) || (nd l i).fr.any fun f => o f.toNat) i (by omega), lead_lt (l := l) (g := fun o i => (decide ((nd l i).op = 0) && decide (UP l all (now + 1) i ≠ UP l all now i)) || (nd l i).fr.any fun f => o f.toNat) l.length (by omega)]
  constructor
  · rintro ⟨f, hf, h⟩; exact ⟨f, hf, by rw [← key f hf]; exact h⟩
  · rintro ⟨f, hf, h⟩; exact ⟨f, hf, by rw [key f hf]; exact h⟩
theorem lead_of {l : List NodeD} (hok : Ok l) {all : List InstD} {now : Nat} : ∀ i, i < l.length → VP l all (now + 1) i ≠ VP l all now i → leadF l all now i = true := by
  intro i
  induction i using Nat.strongRecOn with
  | ind i ih =>
  intro hi hne
  rw [lead_eq hok hi, Bool.or_eq_true]
  by_cases h0 : (nd l i).op = 0
  · left
    unfold VP at hne
    rw [fin_in h0, fin_in h0] at hne
    simp [h0, hne]
  · right
    refine Classical.byContradiction fun hx => hne ?_
    unfold VP
    rw [fin_op hok hi h0, fin_op hok hi h0]
    refine comp_congr fun f hf => Classical.byContradiction fun hy => hx (List.any_eq_true.2 ⟨f, hf, ?_⟩)
    rw [nd_eq hi] at hf
    have := hok.fr i hi f hf
    exact ih f.toNat (by omega) (by omega) hy
theorem Rn.little {l : List NodeD} {all : List InstD} (h : Rn l all) (pick : List Int) (he : ∀ i, i < l.length → (nd l i).eager = true) {k : Nat} (hk : k + 1 < all.length) {d : DoneD} (hd : d ∈ (zAt l pick all (k + 1)).1) :
    ∃ i : Nat, d.node = i ∧ i < l.length ∧ (∃ f ∈ (nd l i).fr, (zAt l pick all (k + 1)).2.2.W f.toNat ≠ (zAt l pick all k).2.2.W f.toNat) ∧ leadF l all (k + 1) i = true ∧ d.other = decide ((zAt l pick all (k + 1)).2.2.W i ≠ (zAt l pick all k).2.2.W i) := by
  have hw : ∀ q i, i < l.length → (nd l i).op ≠ 0 → wantS l (ia all q).asks i = true := fun q i hi h0 => wantS_iff.2 ⟨h0, i, hi, by unfold isRoot; rw [he i hi]; rfl, .refl i⟩
  obtain ⟨os0, ho0, _⟩ := h.inst pick (k := k) (by omega)
  obtain ⟨os, ho, _⟩ := h.inst pick hk
  have hwo := wantS_ok h.ok (ia all (k + 1)).asks
  have hs := (instE_ok (h.io (k + 1) hk)).2.2.1
  have hinv := h.inv pick (k + 1) (by omega)
  have hLk : ∀ i, i < l.length → (nd l i).op ≠ 0 → (stAt l pick all (k + 1)).L i = k := fun i hi h0 => (ho0.mid.lk i (ho0.all i (hw k i hi h0))).L
  rw [ho.dn] at hd
  obtain ⟨i, hio, hd⟩ := List.mem_flatMap.1 hd
  obtain ⟨_, hdn, hold, _, hoth⟩ := dnN_mem hd
  have hwi := ho.mid.want i hio
  have hil := hwo.lt i hwi
  have hop := hwo.op i hwi
  have hLi := hLk i hil hop
  have hlk := ho.mid.lk i hio
  refine ⟨i, hdn, hil, ?_⟩
  have hch : ∀ f, f < l.length → (zAt l pick all (k + 1)).2.2.O f > (k : Int) → (zAt l pick all (k + 1)).2.2.W f ≠ (stAt l pick all (k + 1)).W f := fun f hfl hO => by
    have hOk := hinv.O f
    by_cases hf : f ∈ os
    · have a := ho.mid.lk f hf
      have hopf := hwo.op f (ho.mid.want f hf)
      obtain ⟨e1, e2⟩ := after_non (now := k + 1) (s := stAt l pick all (k + 1)) hs hopf
      rw [a.O] at hO
      by_cases hx : oldN l (afterSets (ia all (k + 1)) (k + 1) (stAt l pick all (k + 1))) (zAt l pick all (k + 1)).2.2 f = true ∧ othN l (afterSets (ia all (k + 1)) (k + 1) (stAt l pick all (k + 1))) (zAt l pick all (k + 1)).2.2 f = true
      · rw [a.W, if_pos hx.1]
        have h2 := hx.2
        unfold othN at h2
        rw [after_L, hLk f hfl hopf, e1, Bool.or_eq_true, decide_eq_true_eq, decide_eq_true_eq] at h2
        rcases h2 with h2 | h2
        · omega
        · exact h2
      · rw [if_neg hx, e2] at hO; omega
    · have a := ho.mid.un f hf
      rw [a.O, after_O] at hO
      rw [a.W, after_W]
      by_cases hx : setsF (stAt l pick all (k + 1)).W (ia all (k + 1)).sets f ≠ (stAt l pick all (k + 1)).W f
      · exact hx
      · rw [if_neg hx] at hO; omega
  have hex : ∃ f ∈ (nd l i).fr, (zAt l pick all (k + 1)).2.2.W f.toNat ≠ (zAt l pick all k).2.2.W f.toNat := by
    unfold oldN at hold
    rw [Bool.or_eq_true, decide_eq_true_eq, List.any_eq_true, after_L, hLi] at hold
    rcases hold with ⟨f, hf, h2⟩ | h2
    · have hf2 := hf
      rw [nd_eq hil] at hf2
      have := h.ok.fr i hil f hf2
      exact ⟨f, hf, hch f.toNat (by omega) (by simpa using h2)⟩
    · omega
  refine ⟨hex, ?_, ?_⟩
  · obtain ⟨f, hf, hne⟩ := hex
    rw [lead_eq h.ok hil, Bool.or_eq_true]
    right
    refine List.any_eq_true.2 ⟨f, hf, ?_⟩
    have hf2 := hf
    rw [nd_eq hil] at hf2
    have hfi := h.ok.fr i hil f hf2
    refine lead_of h.ok f.toNat (by omega) ?_
    have hq : ∀ q, q < all.length → (zAt l pick all q).2.2.W f.toNat = VP l all (q + 1) f.toNat := fun q hq => h.word pick hq (by
      by_cases h0 : (nd l f.toNat).op = 0
      · exact .inl h0
      · exact .inr (hw q _ (by omega) h0))
    rw [← hq (k + 1) hk, ← hq k (by omega)]; exact hne
  · rw [hoth]
    unfold othN
    obtain ⟨e1, _⟩ := after_non (now := k + 1) (s := stAt l pick all (k + 1)) hs hop
    have hc : comp (nd l i) (zAt l pick all (k + 1)).2.2.W = (zAt l pick all (k + 1)).2.2.W i := by rw [hlk.W, if_pos hold]
    rw [after_L, hLi, e1, hc, decide_eq_false (by omega : ¬ (k : Int) < 0), Bool.false_or]; rfl
theorem sum_const (c : Nat) : ∀ l : List Nat, (l.map fun _ => c).sum = l.length * c
  | [] => by simp
  | x :: r => by rw [List.map_cons, List.sum_cons, sum_const c r, List.length_cons, Nat.add_mul]; omega
theorem Rn.looked {l : List NodeD} {all : List InstD} (h : Rn l all) (pick : List Int) (he : ∀ i, i < l.length → (nd l i).eager = true) : (toldS l all pick).2.1 = all.length * (l.countP fun x => decide (x.op ≠ 0)) := by
  have key : ∀ k, k < all.length → (zAt l pick all k).2.1 = l.countP fun x => decide (x.op ≠ 0) := fun k hk => by
    obtain ⟨os, ho, _⟩ := h.inst pick hk
    have hw := wantS_ok h.ok (ia all k).asks
    rw [ho.cnt]
    have hp : os.Perm ((List.range l.length).filter fun i => decide ((nd l i).op ≠ 0)) := (List.perm_ext_iff_of_nodup ho.mid.dup (List.nodup_range.filter _)).2 fun i => by
      rw [List.mem_filter, List.mem_range, decide_eq_true_eq]
      constructor
      · intro hi; exact ⟨hw.lt i (ho.mid.want i hi), hw.op i (ho.mid.want i hi)⟩
      · rintro ⟨h1, h2⟩; exact ho.all i (wantS_iff.2 ⟨h2, i, h1, by unfold isRoot; rw [he i h1]; rfl, .refl i⟩)
    rw [hp.length_eq, ← List.countP_eq_length_filter]
    have e : l = (List.range l.length).map (nd l) := by
      apply List.ext_getElem (by simp)
      intro i h1 h2
      rw [List.getElem_map, List.getElem_range, nd_eq h1]
    conv => rhs; rw [e, List.countP_map]
    rfl
  rw [told_at]
  simp only
  rw [List.map_congr_left (g := fun _ => l.countP fun x => decide (x.op ≠ 0)) fun k hk => key k (List.mem_range.1 hk), sum_const, List.length_range]
/-! Nothing is looked at unless it is asked for -/
theorem Rn.lazy0 {l : List NodeD} {all : List InstD} (h : Rn l all) (pick : List Int) {m : Nat} (hm : m ≤ all.length) (he : ∀ i, i < l.length → (nd l i).eager = false) (ha : ∀ k, k < m → (ia all k).asks = []) :
    (∀ k, k < m → (zAt l pick all k).1 = [] ∧ (zAt l pick all k).2.1 = 0) ∧ ∀ k, k ≤ m → ∀ i, (stAt l pick all k).L i = -1 := by
  have hno : ∀ k, k < m → ∀ i, wantS l (ia all k).asks i ≠ true := fun k hk i hx => by
    obtain ⟨_, r, hr, h2, _⟩ := wantS_iff.1 hx
    unfold isRoot at h2
    rw [he r hr, ha k hk] at h2
    simp at h2
  have hos : ∀ k, k < m → ∃ os, Inst l (wantS l (ia all k).asks) k (afterSets (ia all k) k (stAt l pick all k)) (zAt l pick all k) os ∧ os = [] := fun k hk => by
    obtain ⟨os, ho, _⟩ := h.inst pick (k := k) (by omega)
    refine ⟨os, ho, ?_⟩
    cases os with
    | nil => rfl
    | cons i r => exact absurd (ho.mid.want i List.mem_cons_self) (hno k hk i)
  refine ⟨fun k hk => ?_, fun k => ?_⟩
  · obtain ⟨os, ho, rfl⟩ := hos k hk
    exact ⟨by rw [ho.dn]; rfl, by rw [ho.cnt]; rfl⟩
  · induction k with
    | zero => intro _ i; rfl
    | succ k ih =>
      intro hk i
      obtain ⟨os, ho, rfl⟩ := hos k (by omega)
      rw [stAt_succ, (ho.mid.un i (by simp)).L, after_L]; exact ih (by omega) i
theorem sum_zero {f : Nat → Nat} : ∀ {l : List Nat}, (∀ k ∈ l, f k = 0) → (l.map f).sum = 0
  | [], _ => rfl
  | x :: r, h => by rw [List.map_cons, List.sum_cons, h x List.mem_cons_self, sum_zero fun k hk => h k (List.mem_cons_of_mem _ hk)]
theorem flat_nil {β : Type} {f : Nat → List β} : ∀ {l : List Nat}, (∀ k ∈ l, f k = []) → l.flatMap f = []
  | [], _ => rfl
  | x :: r, h => by rw [List.flatMap_cons, h x List.mem_cons_self, flat_nil fun k hk => h k (List.mem_cons_of_mem _ hk)]; rfl
theorem Rn.lazy {l : List NodeD} {all : List InstD} (h : Rn l all) (pick : List Int) (he : ∀ i, i < l.length → (nd l i).eager = false) (ha : ∀ k, k < all.length → (ia all k).asks = []) : (toldS l all pick).1 = [] ∧ (toldS l all pick).2.1 = 0 := by
  have h0 := (h.lazy0 pick (Nat.le_refl _) he ha).1
  rw [told_at]
  exact ⟨flat_nil fun k hk => (h0 k (List.mem_range.1 hk)).1, sum_zero fun k hk => (h0 k (List.mem_range.1 hk)).2⟩
theorem Rn.lazyLast {l : List NodeD} {all : List InstD} (h : Rn l all) (pick : List Int) {m : Nat} (hm : all.length = m + 1) (he : ∀ i, i < l.length → (nd l i).eager = false) (ha : ∀ k, k < m → (ia all k).asks = []) :
    (toldS l all pick).1.length = ((List.range l.length).filter (wantS l (ia all m).asks)).length ∧ ∀ d ∈ (toldS l all pick).1, d.inst = m ∧ d.other = true ∧ ∃ i : Nat, d.node = i ∧ i < l.length ∧ wantS l (ia all m).asks i = true := by
  obtain ⟨h0, hL⟩ := h.lazy0 pick (m := m) (by omega) he ha
  have e : (toldS l all pick).1 = (zAt l pick all m).1 := by
    rw [told_at, hm, List.range_succ]
    simp only
    rw [List.flatMap_append, flat_nil fun k hk => (h0 k (List.mem_range.1 hk)).1]; simp
  rw [e]
  obtain ⟨os, ho, hx⟩ := h.inst pick (k := m) (by omega)
  clear hx
  have hw := wantS_ok h.ok (ia all m).asks
  have hold : ∀ i, oldN l (afterSets (ia all m) m (stAt l pick all m)) (zAt l pick all m).2.2 i = true := fun i => by
    unfold oldN; rw [after_L, hL m (Nat.le_refl _) i]; simp
  refine ⟨?_, fun d hd => ?_⟩
  · have hp : os.Perm ((List.range l.length).filter (wantS l (ia all m).asks)) := (List.perm_ext_iff_of_nodup ho.mid.dup (List.nodup_range.filter _)).2 fun i => by
      rw [List.mem_filter, List.mem_range]
      exact ⟨fun hi => ⟨hw.lt i (ho.mid.want i hi), ho.mid.want i hi⟩, fun hi => ho.all i hi.2⟩
    rw [ho.dn, ← hp.length_eq]
    have : ∀ i, (dnN l m (afterSets (ia all m) m (stAt l pick all m)) (zAt l pick all m).2.2 i).length = 1 := fun i => by unfold dnN; rw [if_pos (hold i)]; rfl
    clear hp ho hw
    induction os with
    | nil => rfl
    | cons i r ih => rw [List.flatMap_cons, List.length_append, this, ih, List.length_cons]; omega
  · rw [ho.dn] at hd
    obtain ⟨i, hi, hd⟩ := List.mem_flatMap.1 hd
    obtain ⟨h1, h2, _, _, h5⟩ := dnN_mem hd
    refine ⟨h1, ?_, i, h2, hw.lt i (ho.mid.want i hi), ho.mid.want i hi⟩
    rw [h5]; unfold othN; rw [after_L, hL m (Nat.le_refl _) i]; simp
end Go.Proofs.YtefkmiomldhmjaaDoor
/- Nodes and instants that numbers make; scripts. -/
namespace Go.Proofs.YtefkmiomldhmjaaDoor
open Go.Sl
variable {S : Nat → Prop} {w0 : World} {η : Heap}
abbrev n32 (l : List Nat) : List Value := l.map fun (b : Nat) => Value.int .u32 (b : Int)
abbrev n16 (l : List Nat) : List Value := l.map fun (b : Nat) => Value.int .u16 (b : Int)
theorem row32 {a : Option Addr} {xs : List Nat} (h : Row S w0 η a (n32 xs)) {k : Nat} (hk : k < xs.length) : At S w0 η (sAt a (k * 1)) (.int .u32 (xs[k] : Int)) := by
  rw [Nat.mul_one]; exact h.cell k _ (by simp [hk])
theorem row16 {a : Option Addr} {xs : List Nat} (h : Row S w0 η a (n16 xs)) {k : Nat} (hk : k < xs.length) : At S w0 η (sAt a (k * 1)) (.int .u16 (xs[k] : Int)) := by
  rw [Nat.mul_one]; exact h.cell k _ (by simp [hk])
theorem wrapN {n s : Nat} (h : n < 4294967296) : IntKind.i64.wrap ((n / 2 ^ s : Nat) : Int) = ((n / 2 ^ s : Nat) : Int) := by
  have h1 := Nat.div_le_self n (2 ^ s)
  generalize n / 2 ^ s = q at h1 ⊢
  exact wrap_i64 (by omega) (by omega)
theorem wrapN0 {n : Nat} (h : n < 4294967296) : IntKind.i64.wrap (n : Int) = (n : Int) := wrap_i64 (by omega) (by omega)
theorem divlt {n s : Nat} (h : n < 4294967296) : n / 2 ^ s < 2 ^ IntKind.u32.bits := by have := Nat.div_le_self n (2 ^ s); have : (2 : Nat) ^ IntKind.u32.bits = 4294967296 := rfl; omega
structure ItemOk (i : Nat) (x : NodeD) : Prop where
  ok : okNode i x = true
  inp : x.op = 0 ↔ i < 3
theorem validA_of : ∀ {l : List NodeD} {k : Nat}, (∀ i (h : i < l.length), okNode (k + i) l[i] = true) → validA l k = true
  | [], _, _ => rfl
  | x :: r, k, h => by
    simp only [validA, Bool.and_eq_true]
    refine ⟨by have h0 : okNode (k + 0) x = true := h 0 (by simp)
               simpa using h0, validA_of fun i hi => ?_⟩
    have := h (i + 1) (by simpa using hi)
    rw [show k + 1 + i = k + (i + 1) by omega]; simpa using this
theorem item0 : ItemOk 0 ⟨0, 3, none, [], 0, false⟩ := ⟨by decide, by decide⟩
theorem item1 : ItemOk 1 ⟨0, -1, none, [], 0, false⟩ := ⟨by decide, by decide⟩
theorem item2 : ItemOk 2 ⟨0, 0, none, [], 0, false⟩ := ⟨by decide, by decide⟩
/-- What is made. -/
structure MadeOk (l : List NodeD) (all : List InstD) : Prop where
  item : ∀ i (h : i < l.length), ItemOk i l[i]
  lo : 3 ≤ l.length
  hi : l.length ≤ 20
  al : all.length ≤ 20
  io : ∀ x ∈ all, instE l x = 0
theorem MadeOk.valid {l : List NodeD} {all : List InstD} (h : MadeOk l all) : valid l = true := by
  have h1 := h.lo
  have h2 := h.hi
  unfold Go.Proofs.YtefkmiomldhmjaaDoor.valid
  rw [validA_of (l := l) (k := 0) (fun i hi => by rw [Nat.zero_add]; exact (h.item i hi).ok)]
  simp; omega
theorem MadeOk.check {l : List NodeD} {all : List InstD} (h : MadeOk l all) {pick : List Int} (hp : pick.length ≤ 200) (hq : ∀ p ∈ pick, 0 ≤ p ∧ p ≤ 1000000) : checkS l all pick = 0 := by
  rw [checkS_rest h.valid]
  unfold restE
  have h3 := h.al
  rw [if_pos ⟨by omega, hp⟩, if_pos (List.all_eq_true.2 fun p hp => by have := hq p hp; simp; omega)]
  have := h.io
  clear h h3
  induction all with
  | nil => rfl
  | cons x r ih => unfold instsE; rw [if_pos (this x List.mem_cons_self)]; exact ih fun y hy => this y (List.mem_cons_of_mem _ hy)
theorem okNode_mk {i : Nat} {op n : Int} {fr : List Int} {fa : Option Addr} {fc : Nat} {e : Bool} (h1 : 1 ≤ op) (h2 : op ≤ 3) (h3 : 1 ≤ fr.length) (h4 : fr.length ≤ 6) (h5 : -2147483648 ≤ n ∧ n ≤ 2147483647) (h6 : op = 3 → 1 ≤ n) (h7 : ∀ f ∈ fr, 0 ≤ f ∧ f < i) : okNode i ⟨op, n, fa, fr, fc, e⟩ = true := by
  unfold okNode
  rw [Bool.and_eq_true, okHead_iff]
  refine ⟨⟨by show 0 ≤ op; omega, h2, ⟨fun h => by have : op = 0 := h; omega, fun h => by have : fr = [] := h; rw [this] at h3; simp at h3⟩, h4, h5, h6⟩, ?_⟩
  unfold okFrom; rw [List.all_eq_true]; intro f hf; exact inN_iff.2 (h7 f hf)
theorem instE_mk {l : List NodeD} {x : InstD} (h1 : x.sets.length ≤ 10) (h2 : x.asks.length ≤ 10) (h3 : ∀ s ∈ x.sets, (0 ≤ s.node ∧ s.node < l.length) ∧ (nd l s.node.toNat).op = 0 ∧ (-2147483648 ≤ s.word ∧ s.word ≤ 2147483647)) (h4 : ∀ a ∈ x.asks, 0 ≤ a ∧ a < l.length) : instE l x = 0 := by
  unfold instE
  rw [if_pos ⟨h1, h2⟩, if_pos]
  rw [Bool.and_eq_true]
  refine ⟨List.all_eq_true.2 fun s hs => ?_, List.all_eq_true.2 fun a ha => inN_iff.2 (h4 a ha)⟩
  have := h3 s hs
  rw [Bool.and_eq_true, Bool.and_eq_true, decide_eq_true_eq]
  exact ⟨⟨inN_iff.2 this.1, this.2.1⟩, isW_iff.2 this.2.2⟩
theorem flatN_len (l : List NodeD) : (l.flatMap NodeD.cells).length = l.length * 4 := by
  induction l with
  | nil => rfl
  | cons x r ih => simp only [List.flatMap_cons, List.length_append, ih, List.length_cons, ncl]; omega
theorem flatI_len (l : List InstD) : (l.flatMap InstD.cells).length = l.length * 2 := by
  induction l with
  | nil => rfl
  | cons x r ih => simp only [List.flatMap_cons, List.length_append, ih, List.length_cons, icl]; omega
theorem flatS_len (l : List SetD) : (l.flatMap SetD.cells).length = l.length * 2 := by
  induction l with
  | nil => rfl
  | cons x r ih => simp only [List.flatMap_cons, List.length_append, ih, List.length_cons, scl]; omega

set_option maxHeartbeats 2000000 in
theorem order_fn {a : Option Addr} {xs : List Nat} {c : Nat} (hx : Row S w0 [] a (n16 xs)) (hl : xs.length < 2 ^ 63) (hc : xs.length ≤ c) (hb : ∀ n ∈ xs, n < 65536) :
    Rt Tryd.prog 28 [.slice a xs.length c].toArray S w0 η (fun v η' => ∃ a cap seg, v = .slice a ((xs.take 200).map fun (n : Nat) => (n : Int)).length cap ∧ η' = seg :: η ∧ Row S w0 [seg] a (ints ((xs.take 200).map fun (n : Nat) => (n : Int)))) := by
  have hF := open_wide
  refine Rt.of (fn := Tryd.f28) Tryd.func28 rfl rfl ?_
  refine T.seq ?_
  refine T.region ?_
  refine TL.assign hF rfl rfl ?_
  refine TL.nil ?_
  refine TQ.then_n ?_
  refine T.seq ?_
  refine T.seq ?_
  refine T.region ?_
  refine TL.move hF rfl rfl ?_
  refine TL.move hF rfl rfl ?_
  refine TL.len hF rfl rfl ?_
  refine TL.min2 hF rfl rfl rfl ?_
  rw [show min (xs.length : Int) 200 = ((min xs.length 200 : Nat) : Int) by omega]
  refine TL.slice hF (i := 0) (j := min xs.length 200) rfl rfl rfl (by omega) (by omega) rfl ?_
  rw [cut0', Nat.sub_zero, Nat.sub_zero]
  refine TL.len hF rfl rfl ?_
  refine TL.move hF rfl rfl ?_
  refine TL.nil ?_
  refine TQ.then_n ?_
  refine T.block ?_
  refine T.hnil ?_
  refine T.loop (ι := Nat × Option Addr × Nat × Seg) (fun i => i.1 ≤ min xs.length 200 ∧ OSl 3 1 (.slice i.2.1 i.1 i.2.2.1) i.1 (ints ((xs.take i.1).map fun (n : Nat) => (n : Int))) i.2.2.2) (fun i => [(2, .slice i.2.1 i.1 i.2.2.1), (9, .slice a (min xs.length 200) c), (10, .int .i64 ((min xs.length 200 : Nat) : Int)), (11, .int .i64 (i.1 : Int))]) (fun i => i.2.2.2 :: η) (fun i => min xs.length 200 - i.1) (0, none, 0, []) ⟨Nat.zero_le _, OSl.nil 3 1⟩ ⟨rfl, rfl, rfl, rfl, trivial⟩ rfl ?_
  rintro ⟨k, oa, oc, og⟩ ⟨hk, ho⟩
  dsimp only at hk ho
  refine T.seq ?_
  refine T.region ?_
  refine TL.bin hF rfl rfl rfl rfl ?_
  refine TL.nil ?_
  refine TQ.then_n ?_
  refine T.seq ?_
  first | refine T.cond_d rfl (fun ht12 => ?_) (fun ht12 => ?_) | refine T.cond _ rfl (fun ht12 => ?_) (fun ht12 => ?_)
  · refine T.skip ?_
    refine TQ.then_n ?_
    refine T.seq ?_
    refine T.block ?_
    refine T.seq ?_
    refine T.region ?_
    refine TL.indexAddr hF rfl rfl (hx.adi (i := k) (by rw [List.length_map]; omega)) (by omega) (by omega) rfl ?_
    refine TL.load hF rfl ((row16 hx (k := k) (by omega)).up (by simp)) rfl ?_
    refine TL.assign hF rfl rfl ?_
    refine TL.nil ?_
    refine TQ.then_n ?_
    refine T.region ?_
    refine TL.move hF rfl rfl ?_
    refine TL.move hF rfl rfl ?_
    have hkl : k < xs.length := by omega
    have hbk := hb _ (List.getElem_mem hkl)
    refine TL.convK hF rfl (wrap_i64 (by omega) (by omega)) rfl ?_
    refine TL.buildSlice hF rfl (cs := #[.int .i64 (xs[k] : Int)]) (e := 3) (fun w => by kernel_rfl) rfl (fun b18 => ?_)
    refine TL.append hF 1 rfl rfl rfl ho (row_own (cs := [.int .i64 (xs[k] : Int)]) (e := 3) List.mem_cons_self).src rfl rfl (by simp [Value.oneCell']) (by omega) (by omega) rfl (fun a' cap' seg' ho' => ?_)
    refine TL.assign hF rfl rfl ?_
    refine TL.nil ?_
    refine TQ.block_n ?_
    refine TQ.then_n ?_
    refine T.region ?_
    refine TL.add hF rfl rfl (by omega) (by omega) rfl ?_
    refine TL.move hF rfl rfl ?_
    refine TL.nil ?_
    refine TQ.pop ?_
    refine TQ.round (k + 1, a', cap', seg') ⟨by dsimp only; omega, ?_⟩ (by dsimp only; omega) ⟨rfl, rfl, rfl, rfl, trivial⟩ rfl
    dsimp only
    rw [List.take_succ_eq_append_getElem hkl, List.map_append, ints, List.map_append]; exact ho'
  · refine T.exit ?_
    refine TQ.then_x ?_
    refine TQ.then_x ?_
    refine TQ.block_x ?_
    refine TQ.then_n ?_
    refine T.seq ?_
    refine T.region ?_
    refine TL.move hF rfl rfl ?_
    refine TL.assign hF rfl rfl ?_
    refine TL.nil ?_
    refine TQ.then_n ?_
    refine T.ret ?_
    have hkn : k = min xs.length 200 := by omega
    refine TQ.rets [2] _ rfl rfl rfl ?_
    have e : xs.take k = xs.take 200 := by
      rw [hkn]
      by_cases h : xs.length ≤ 200
      · rw [Nat.min_eq_left h, List.take_of_length_le (Nat.le_refl _), List.take_of_length_le h]
      · rw [Nat.min_eq_right (by omega)]
    have e2 : k = ((xs.take 200).map fun (n : Nat) => (n : Int)).length := by simp; omega
    rw [e] at ho
    exact ⟨oa, oc, og, congrArg (fun z => Value.slice oa z oc) e2, rfl, ho.row List.mem_cons_self⟩
set_option maxHeartbeats 2000000 in
theorem made_fn {a b : Option Addr} {xs ys : List Nat} {c d : Nat} (hx : Row S w0 [] a (n32 xs)) (hy : Row S w0 [] b (n32 ys)) (hl : xs.length < 2 ^ 63) (hm : ys.length < 2 ^ 63) (hc : xs.length ≤ c) (hd : ys.length ≤ d) (hb : ∀ n ∈ xs, n < 4294967296) (hbb : ∀ n ∈ ys, n < 4294967296) :
    Rt Tryd.prog 27 [.slice a xs.length c, .slice b ys.length d].toArray S w0 η (fun v η' => ∃ (l : List NodeD) (all : List InstD) (la : Option Addr) (lc : Nat) (lg : Seg) (ia : Option Addr) (ic : Nat) (ig : Seg) (ins : Heap), v = .tuple #[.slice la l.length lc, .slice ia all.length ic] ∧ η' = ig :: lg :: (ins ++ η) ∧ MadeOk l all ∧ OSl 55 4 (.slice la l.length lc) l.length (l.flatMap NodeD.cells) lg ∧ OSl 50 2 (.slice ia all.length ic) all.length (all.flatMap InstD.cells) ig ∧ (∀ x ∈ l, Row S w0 ins x.fa (ints x.fr)) ∧ (∀ x ∈ all, Row S w0 ins x.sa (x.sets.flatMap SetD.cells) ∧ Row S w0 ins x.aa (ints x.asks))) := by
  have hF := open_wide
  refine Rt.of (fn := Tryd.f27) Tryd.func27 rfl rfl ?_
  refine T.seq ?_
  refine T.region ?_
  refine TL.assign hF rfl rfl ?_
  refine TL.assign hF rfl rfl ?_
  refine TL.nil ?_
  refine TQ.then_n ?_
  refine T.seq ?_
  refine T.region ?_
  refine TL.build hF rfl (r := .agg #[.int .i64 0, .int .i64 3, .slice none 0 0, .bool false]) (fun w => by kernel_rfl) rfl ?_
  refine TL.build hF rfl (r := .agg #[.int .i64 0, .int .i64 (-1), .slice none 0 0, .bool false]) (fun w => by kernel_rfl) rfl ?_
  refine TL.build hF rfl (r := .agg #[.int .i64 0, .int .i64 0, .slice none 0 0, .bool false]) (fun w => by kernel_rfl) rfl ?_
  refine TL.buildSlice hF rfl (cs := (([⟨0, 3, none, [], 0, false⟩, ⟨0, -1, none, [], 0, false⟩, ⟨0, 0, none, [], 0, false⟩] : List NodeD).flatMap NodeD.cells).toArray) (e := 55) (fun w => by kernel_rfl) rfl (fun b20 => ?_)
  refine TL.assign hF rfl rfl ?_
  refine TL.nil ?_
  refine TQ.then_n ?_
  refine T.seq ?_
  refine T.seq ?_
  refine T.region ?_
  refine TL.move hF rfl rfl ?_
  refine TL.move hF rfl rfl ?_
  refine TL.len hF rfl rfl ?_
  refine TL.min2 hF rfl rfl rfl ?_
  rw [show min (xs.length : Int) 17 = (((min xs.length 17) : Nat) : Int) by omega]
  refine TL.slice hF (i := 0) (j := (min xs.length 17)) rfl rfl rfl (by omega) (by omega) rfl ?_
  rw [cut0', Nat.sub_zero, Nat.sub_zero]
  refine TL.len hF rfl rfl ?_
  refine TL.move hF rfl rfl ?_
  refine TL.nil ?_
  refine TQ.then_n ?_
  refine T.block ?_
  refine T.loop (ι := Nat × List NodeD × Option Addr × Nat × Seg × Heap) (fun i => i.1 ≤ (min xs.length 17) ∧ i.2.1.length = 3 + i.1 ∧ (∀ k (h : k < i.2.1.length), ItemOk k i.2.1[k]) ∧ OSl 55 4 (.slice i.2.2.1 i.2.1.length i.2.2.2.1) i.2.1.length (i.2.1.flatMap NodeD.cells) i.2.2.2.2.1 ∧ ∀ x ∈ i.2.1, Row S w0 i.2.2.2.2.2 x.fa (ints x.fr)) (fun i => [(1, .slice b ys.length d), (4, .slice none 0 0), (5, .slice none 0 0), (6, .slice i.2.2.1 i.2.1.length i.2.2.2.1), (25, .slice a (min xs.length 17) c), (26, .int .i64 ((min xs.length 17) : Nat)), (27, .int .i64 (i.1 : Int))]) (fun i => i.2.2.2.2.1 :: (i.2.2.2.2.2 ++ η)) (fun i => (min xs.length 17) - i.1) (0, [⟨0, 3, none, [], 0, false⟩, ⟨0, -1, none, [], 0, false⟩, ⟨0, 0, none, [], 0, false⟩], some ⟨b20, 0, none⟩, 3, [(b20, .cells (([⟨0, 3, none, [], 0, false⟩, ⟨0, -1, none, [], 0, false⟩, ⟨0, 0, none, [], 0, false⟩] : List NodeD).flatMap NodeD.cells).toArray 55 (0, 0))], []) ⟨Nat.zero_le _, rfl, fun k h => by
    have hk : k = 0 ∨ k = 1 ∨ k = 2 := by simp at h; omega
    rcases hk with rfl | rfl | rfl
    · exact item0
    · exact item1
    · exact item2, osl_fresh rfl, fun x hx => by
    simp only [List.mem_cons, List.not_mem_nil, or_false] at hx
    rcases hx with rfl | rfl | rfl <;> exact Row.none⟩ ⟨rfl, rfl, rfl, rfl, rfl, rfl, rfl, trivial⟩ rfl ?_
  rintro ⟨j, l, la, lc, lg, ins⟩ ⟨hj, hll, hit, hol, hfr⟩
  dsimp only at hj hll hit hol hfr
  refine T.seq ?_
  refine T.region ?_
  refine TL.bin hF rfl rfl rfl rfl ?_
  refine TL.nil ?_
  refine TQ.then_n ?_
  refine T.seq ?_
  first | refine T.cond_d rfl (fun ht28 => ?_) (fun ht28 => ?_) | refine T.cond _ rfl (fun ht28 => ?_) (fun ht28 => ?_)
  · refine T.skip ?_
    refine TQ.then_n ?_
    refine T.seq ?_
    refine T.block ?_
    refine T.seq ?_
    refine T.region ?_
    refine TL.indexAddr hF rfl rfl (hx.adi (i := j) (by rw [List.length_map]; omega)) (by omega) (by omega) rfl ?_
    refine TL.load hF rfl ((row32 hx (k := j) (by omega)).up (by simp)) rfl ?_
    refine TL.assign hF rfl rfl ?_
    refine TL.nil ?_
    refine TQ.then_n ?_
    refine T.seq ?_
    refine T.region ?_
    refine TL.move hF rfl rfl ?_
    have hjl : j < xs.length := by omega
    have hn0 := hb _ (List.getElem_mem hjl)
    generalize hnn : xs[j] = n at hn0 ⊢
    refine TL.convK hF rfl (wrapN0 hn0) rfl ?_
    refine TL.remN (a := n) (b := 3) hF rfl rfl (by decide) rfl ?_
    refine TL.add hF rfl rfl (by omega) (by omega) rfl ?_
    refine TL.move hF rfl rfl ?_
    refine TL.shrN (a := n) (s := 2) hF rfl rfl (by decide) rfl ?_
    refine TL.convK hF rfl (wrapN hn0) rfl ?_
    refine TL.remN (a := n / 2 ^ 2) (b := 7) hF rfl rfl (by decide) rfl ?_
    refine TL.sub hF rfl rfl (by omega) (by omega) rfl ?_
    refine TL.move hF rfl rfl ?_
    refine TL.shrN (a := n) (s := 5) hF rfl rfl (by decide) rfl ?_
    refine TL.andN (a := n / 2 ^ 5) (m := 3) hF rfl rfl rfl (divlt hn0) (by decide) rfl ?_
    refine TL.bin hF rfl rfl rfl rfl ?_
    refine TL.build hF rfl (r := .agg #[.int .i64 ((1 : Int) + ((n % 3 : Nat) : Int)), .int .i64 (((n / 2 ^ 2 % 7 : Nat) : Int) - 2), .slice none 0 0, .bool (decide (((n / 2 ^ 5 &&& 3 : Nat) : Int) = 0))]) (fun w => by kernel_rfl) rfl ?_
    refine TL.alloc hF rfl (fun b9 => ?_)
    refine TL.storeAI hF [.int .i64 ((1 : Int) + ((n % 3 : Nat) : Int)), .int .i64 (((n / 2 ^ 2 % 7 : Nat) : Int) - 2), .slice none 0 0, .bool (decide (((n / 2 ^ 5 &&& 3 : Nat) : Int) = 0))] 0 rfl rfl rfl rfl (by simp [Value.oneCell']) (by simp [Value.cells]) ?_
    refine TL.nil ?_
    refine TQ.then_n ?_
    refine T.cut (ι := Int × Bool) (fun i => (-2147483648 ≤ i.1 ∧ i.1 ≤ 2147483647) ∧ (((1 : Int) + ((n % 3 : Nat) : Int)) = 3 → 1 ≤ i.1)) (fun _ => [(1, .slice b ys.length d), (4, .slice none 0 0), (5, .slice none 0 0), (6, .slice la l.length lc), (25, .slice a (min xs.length 17) c), (26, .int .i64 ((min xs.length 17) : Nat)), (27, .int .i64 (j : Int)), (8, .int .u32 (n : Int)), (9, ptr b9)]) (fun i => [(b9, Obj.cells #[.int .i64 ((1 : Int) + ((n % 3 : Nat) : Int)), .int .i64 i.1, .slice none 0 0, .bool i.2] 55 (0, 0))] :: lg :: (ins ++ η)) ?_ ?_
    · refine T.seq ?_
      refine T.region ?_
      refine TL.fieldAddr hF rfl rfl ?_
      refine TL.load hF rfl (by first | exact At.own' (i := 0) rfl rfl | exact At.own' (i := 1) rfl rfl | exact At.own' (i := 2) rfl rfl | exact At.own' (i := 3) rfl rfl | exact At.own' (i := 4) rfl rfl | exact At.own' (i := 5) rfl rfl | exact At.own' (i := 6) rfl rfl | exact At.own' (i := 7) rfl rfl | exact At.own' (i := 8) rfl rfl | exact At.own' (i := 9) rfl rfl | exact At.own' (i := 10) rfl rfl | exact At.own' (i := 11) rfl rfl | exact At.own' (i := 12) rfl rfl) rfl ?_
      refine TL.bin hF rfl rfl rfl rfl ?_
      refine TL.nil ?_
      refine TQ.then_n ?_
      first | refine T.cond_d rfl (fun ht47 => ?_) (fun ht47 => ?_) | refine T.cond _ rfl (fun ht47 => ?_) (fun ht47 => ?_)
      · refine T.region ?_
        refine TL.move hF rfl rfl ?_
        refine TL.shrN (a := n) (s := 2) hF rfl rfl (by decide) rfl ?_
        refine TL.convK hF rfl (wrapN hn0) rfl ?_
        refine TL.remN (a := n / 2 ^ 2) (b := 7) hF rfl rfl (by decide) rfl ?_
        refine TL.add hF rfl rfl (by omega) (by omega) rfl ?_
        refine TL.fieldAddr hF rfl rfl ?_
        refine TL.storeI hF 0 rfl rfl rfl rfl (by simp [Value.cells]) ?_
        refine TL.nil ?_
        exact TQ.cut ((1 : Int) + ((n / 2 ^ 2 % 7 : Nat) : Int), decide (((n / 2 ^ 5 &&& 3 : Nat) : Int) = 0)) ⟨by dsimp only; omega, fun _ => by dsimp only; omega⟩ ⟨rfl, rfl, rfl, rfl, rfl, rfl, rfl, rfl, rfl, trivial⟩ rfl
      · refine T.skip ?_
        exact TQ.cut (((n / 2 ^ 2 % 7 : Nat) : Int) - 2, decide (((n / 2 ^ 5 &&& 3 : Nat) : Int) = 0)) ⟨by dsimp only; omega, fun h => absurd h ht47⟩ ⟨rfl, rfl, rfl, rfl, rfl, rfl, rfl, rfl, rfl, trivial⟩ rfl
    · rintro ⟨nn, eg⟩ ⟨hn1, hn2⟩
      dsimp only at hn1 hn2
      refine T.seq ?_
      refine T.seq ?_
      refine T.region ?_
      refine TL.move hF rfl rfl ?_
      refine TL.shrN (a := n) (s := 7) hF rfl rfl (by decide) rfl ?_
      refine TL.convK hF rfl (wrapN hn0) rfl ?_
      refine TL.remN (a := n / 2 ^ 7) (b := 3) hF rfl rfl (by decide) rfl ?_
      refine TL.add hF rfl rfl (by omega) (by omega) rfl ?_
      refine TL.move hF rfl rfl ?_
      refine TL.nil ?_
      refine TQ.then_n ?_
      refine T.block ?_
      have hcnt : n / 2 ^ 7 % 3 < 3 := Nat.mod_lt _ (by decide)
      refine T.hnil ?_
      refine T.loop (ι := Nat × List Int × Option Addr × Nat × Seg) (fun i => i.1 ≤ 1 + n / 2 ^ 7 % 3 ∧ i.2.1.length = i.1 ∧ (∀ f ∈ i.2.1, 0 ≤ f ∧ f < l.length) ∧ OSl 3 1 (.slice i.2.2.1 i.2.1.length i.2.2.2.1) i.2.1.length (ints i.2.1) i.2.2.2.2) (fun i => [(1, .slice b ys.length d), (4, .slice none 0 0), (5, .slice none 0 0), (6, .slice la l.length lc), (25, .slice a (min xs.length 17) c), (26, .int .i64 ((min xs.length 17) : Nat)), (27, .int .i64 (j : Int)), (8, .int .u32 (n : Int)), (9, ptr b9), (58, .int .i64 ((1 : Int) + ((n / 2 ^ 7 % 3 : Nat) : Int))), (59, .int .i64 (i.1 : Int))]) (fun i => i.2.2.2.2 :: [(b9, Obj.cells #[.int .i64 ((1 : Int) + ((n % 3 : Nat) : Int)), .int .i64 nn, .slice i.2.2.1 i.2.1.length i.2.2.2.1, .bool eg] 55 (0, 0))] :: lg :: (ins ++ η)) (fun i => 1 + n / 2 ^ 7 % 3 - i.1) (0, [], none, 0, []) ⟨Nat.zero_le _, rfl, by simp, OSl.nil 3 1⟩ ⟨rfl, rfl, rfl, rfl, rfl, rfl, rfl, rfl, rfl, rfl, rfl, trivial⟩ rfl ?_
      rintro ⟨k, fr, fa, fc, fg⟩ ⟨hk, hfl, hfb, hof⟩
      dsimp only at hk hfl hfb hof
      refine T.seq ?_
      refine T.region ?_
      refine TL.bin hF rfl rfl rfl rfl ?_
      refine TL.nil ?_
      refine TQ.then_n ?_
      refine T.seq ?_
      first | refine T.cond_d rfl (fun ht60 => ?_) (fun ht60 => ?_) | refine T.cond _ rfl (fun ht60 => ?_) (fun ht60 => ?_)
      · refine T.skip ?_
        refine TQ.then_n ?_
        refine T.seq ?_
        refine T.block ?_
        refine T.seq ?_
        refine T.region ?_
        refine TL.move hF rfl rfl ?_
        refine TL.assign hF rfl rfl ?_
        refine TL.nil ?_
        refine TQ.then_n ?_
        have hkk : k < 3 := by omega
        have hlp : 0 < l.length := by omega
        refine T.drawH 12 mixed ?_
        refine DH.pure (i := 0) [(9, _, none)] rfl rfl rfl rfl ⟨⟨rfl, by kernel_rfl⟩, trivial⟩ (fun _ ext => TL.fieldAddr hF rfl rfl TL.fin) ?_
        refine DH.read (i := 1) [(62, _, some 0)] rfl rfl rfl rfl ⟨⟨rfl, rfl, rfl⟩, trivial⟩ (fun ext => TL.load hF rfl (by first | exact At.own' (i := 1) rfl rfl | exact At.own' (i := 2) rfl rfl) rfl TL.fin) ?_
        refine DH.pure (i := 2) [(8, _, none)] rfl rfl rfl rfl ⟨⟨rfl, by kernel_rfl⟩, trivial⟩ (fun _ ext => TL.move hF rfl rfl TL.fin) ?_
        refine DH.pure (i := 3) [(10, _, none)] rfl rfl rfl rfl ⟨⟨rfl, by kernel_rfl⟩, trivial⟩ (fun _ ext => TL.move hF rfl rfl TL.fin) ?_
        refine DH.pure (i := 4) [(65, _, some 3)] rfl rfl rfl rfl ⟨⟨rfl, rfl, rfl⟩, trivial⟩ (fun _ ext => TL.mul hF rfl rfl (by omega) (by omega) rfl TL.fin) ?_
        refine DH.pure (i := 5) [(66, _, some 4)] rfl rfl rfl rfl ⟨⟨rfl, rfl, rfl⟩, trivial⟩ (fun _ ext => TL.add hF rfl rfl (by omega) (by omega) rfl TL.fin) ?_
        refine DH.pure (i := 6) [(64, _, some 2), (67, _, some 5)] rfl rfl rfl rfl ⟨⟨rfl, rfl, rfl⟩, ⟨rfl, rfl, rfl⟩, trivial⟩ (fun _ ext => TL.shrN (a := n) (s := 9 + 5 * k) hF rfl rfl (by show 9 + 5 * k ≤ 32; omega) rfl TL.fin) ?_
        refine DH.pure (i := 7) [(68, _, some 6)] rfl rfl rfl rfl ⟨⟨rfl, rfl, rfl⟩, trivial⟩ (fun _ ext => TL.convK hF rfl (wrapN hn0) rfl TL.fin) ?_
        refine DH.pure (i := 8) [(6, _, none)] rfl rfl rfl rfl ⟨⟨rfl, by kernel_rfl⟩, trivial⟩ (fun _ ext => TL.move hF rfl rfl TL.fin) ?_
        refine DH.pure (i := 9) [(70, _, some 8)] rfl rfl rfl rfl ⟨⟨rfl, rfl, rfl⟩, trivial⟩ (fun _ ext => TL.len hF rfl rfl TL.fin) ?_
        refine DH.pure (i := 10) [(69, _, some 7), (71, _, some 9)] rfl rfl rfl rfl ⟨⟨rfl, rfl, rfl⟩, ⟨rfl, rfl, rfl⟩, trivial⟩ (fun _ ext => TL.remN (a := n / 2 ^ (9 + 5 * k)) (b := l.length) hF rfl rfl hlp rfl TL.fin) ?_
        refine DH.k1 (by kernel_rfl) (by kernel_rfl) (by kernel_rfl) (by kernel_rfl) (HBK.mk (h := 11) [1] [(72, _, some 10)] rfl rfl rfl ⟨⟨rfl, rfl, rfl⟩, trivial⟩ (by kernel_rfl) (fun ext => ?_))
        refine TL.buildSlice hF rfl (cs := #[.int .i64 ((n / 2 ^ (9 + 5 * k) % l.length : Nat) : Int)]) (e := 3) (fun w => by kernel_rfl) rfl (fun b73 => ?_)
        refine TL.finK ⟨⟨_, rfl, _, _, [(62, _, some 0)], rfl, rfl, ⟨⟨rfl, rfl, rfl⟩, trivial⟩, fun ext => TL.load hF rfl (by first | exact At.own' (i := 1) rfl rfl | exact At.own' (i := 2) rfl rfl) rfl TL.fin⟩, trivial⟩ ?_
        refine DH.done [(73, _), (72, _), (71, _), (70, _), (69, _), (68, _), (67, _), (66, _), (65, _), (64, _), (63, _), (62, _)] [_, _, _] (by kernel_rfl) (by kernel_rfl) (by kernel_rfl) (by kernel_rfl) rfl rfl ?_
        refine TL.append hF 1 rfl rfl rfl hof (row_own (cs := [.int .i64 ((n / 2 ^ (9 + 5 * k) % l.length : Nat) : Int)]) (e := 3) List.mem_cons_self).src rfl rfl (by simp [Value.oneCell']) (by omega) (by omega) rfl (fun a' cap' seg' ho' => ?_)
        refine TL.fieldAddr hF rfl rfl ?_
        refine TL.storeI hF 2 rfl rfl rfl rfl (by simp) ?_
        refine TL.nil ?_
        refine TQ.block_n ?_
        refine TQ.then_n ?_
        refine T.region ?_
        refine TL.add hF rfl rfl (by omega) (by omega) rfl ?_
        refine TL.move hF rfl rfl ?_
        refine TL.nil ?_
        refine TQ.pop ?_
        have hmod : n / 2 ^ (9 + 5 * k) % l.length < l.length := Nat.mod_lt _ hlp
        refine TQ.round (k + 1, fr ++ [((n / 2 ^ (9 + 5 * k) % l.length : Nat) : Int)], a', cap', seg') ⟨by dsimp only; omega, by simp only [List.length_append, List.length_singleton]; omega, fun f hf => ?_, by simp only [List.length_append, List.length_singleton, ints, List.map_append]; exact ho'⟩ (by dsimp only; omega) ⟨rfl, rfl, rfl, rfl, rfl, rfl, rfl, rfl, rfl, rfl, rfl, trivial⟩ (by simp)
        rcases List.mem_append.1 hf with h | h
        · exact hfb f h
        · rw [List.mem_singleton.1 h]; omega
      · refine T.exit ?_
        refine TQ.then_x ?_
        refine TQ.then_x ?_
        refine TQ.block_x ?_
        refine TQ.then_n ?_
        refine T.region ?_
        refine TL.move hF rfl rfl ?_
        refine TL.loadA hF [.int .i64 ((1 : Int) + ((n % 3 : Nat) : Int)), .int .i64 nn, .slice fa fr.length fc, .bool eg] rfl rfl (own_list (i := 1) rfl) rfl ?_
        refine TL.buildSlice hF rfl (cs := (NodeD.cells ⟨((1 : Int) + ((n % 3 : Nat) : Int)), nn, fa, fr, fc, eg⟩).toArray) (e := 55) (fun w => by kernel_rfl) rfl (fun b79 => ?_)
        refine TL.append hF 3 rfl rfl rfl hol (row_own (cs := NodeD.cells ⟨((1 : Int) + ((n % 3 : Nat) : Int)), nn, fa, fr, fc, eg⟩) (e := 55) List.mem_cons_self).src rfl rfl (ncells1 _) (by omega) (by omega) rfl (fun a1 cap1 seg1 ho1 => ?_)
        refine TL.assign hF rfl rfl ?_
        refine TL.nil ?_
        refine TQ.block_n ?_
        refine TQ.then_n ?_
        refine T.region ?_
        refine TL.add hF rfl rfl (by omega) (by omega) rfl ?_
        refine TL.move hF rfl rfl ?_
        refine TL.nil ?_
        refine TQ.pick [3, 1] [_, _, _, _] rfl rfl rfl ?_
        refine TQ.round (j + 1, l ++ [⟨((1 : Int) + ((n % 3 : Nat) : Int)), nn, fa, fr, fc, eg⟩], a1, cap1, seg1, fg :: ins) ⟨by dsimp only; omega, by simp only [List.length_append, List.length_singleton]; omega, fun k h => ?_, by simp only [List.length_append, List.length_singleton, List.flatMap_append]; simpa using ho1, fun x hx => ?_⟩ (by dsimp only; omega) ⟨rfl, rfl, rfl, congrArg (fun z : Nat => some (Value.slice a1 z cap1)) (by simp), rfl, rfl, rfl, trivial⟩ rfl
        · dsimp only at h ⊢
          rw [List.getElem_append]
          split
          · exact hit k _
          · rename_i h2
            have hkl : k = l.length := by simp only [List.length_append, List.length_singleton] at h; omega
            simp only [hkl, Nat.sub_self, List.getElem_cons_zero]
            exact ⟨okNode_mk (by omega) (by omega) (by omega) (by omega) hn1 hn2 (fun f hf => hfb f hf), ⟨fun h3 => by have h4 : ((1 : Int) + ((n % 3 : Nat) : Int)) = 0 := h3; omega, fun h3 => by omega⟩⟩
        · rcases List.mem_append.1 hx with h | h
          · exact (hfr x h).up upc
          · rw [List.mem_singleton.1 h]; exact hof.row List.mem_cons_self
  · refine T.exit ?_
    refine TQ.then_x ?_
    refine TQ.then_x ?_
    refine TQ.block_x ?_
    refine TQ.then_n ?_
    refine T.seq ?_
    refine T.region ?_
    refine TL.assign hF rfl rfl ?_
    refine TL.nil ?_
    refine TQ.then_n ?_
    refine T.seq ?_
    refine T.seq ?_
    refine T.region ?_
    refine TL.move hF rfl rfl ?_
    refine TL.move hF rfl rfl ?_
    refine TL.len hF rfl rfl ?_
    have hj17 : l.length = 3 + (min xs.length 17) := by omega
    refine TL.min2 hF rfl rfl rfl ?_
    rw [show min (ys.length : Int) 20 = (((min ys.length 20) : Nat) : Int) by omega]
    refine TL.slice hF (i := 0) (j := (min ys.length 20)) rfl rfl rfl (by omega) (by omega) rfl ?_
    rw [cut0', Nat.sub_zero, Nat.sub_zero]
    refine TL.len hF rfl rfl ?_
    refine TL.move hF rfl rfl ?_
    refine TL.nil ?_
    refine TQ.then_n ?_
    refine T.block ?_
    have h3op : ∀ s : Int, 0 ≤ s ∧ s < 3 → (0 ≤ s ∧ s < l.length) ∧ (nd l s.toNat).op = 0 := fun s hs => ⟨by omega, by
      rw [nd_eq (by omega)]; exact (hit _ _).inp.2 (by omega)⟩
    refine T.hnil ?_
    refine T.loop (ι := Nat × List InstD × Option Addr × Nat × Seg × Heap) (fun i => i.1 ≤ (min ys.length 20) ∧ i.2.1.length = i.1 ∧ (∀ x ∈ i.2.1, instE l x = 0) ∧ OSl 50 2 (.slice i.2.2.1 i.2.1.length i.2.2.2.1) i.2.1.length (i.2.1.flatMap InstD.cells) i.2.2.2.2.1 ∧ (∀ x ∈ l, Row S w0 i.2.2.2.2.2 x.fa (ints x.fr)) ∧ ∀ x ∈ i.2.1, Row S w0 i.2.2.2.2.2 x.sa (x.sets.flatMap SetD.cells) ∧ Row S w0 i.2.2.2.2.2 x.aa (ints x.asks)) (fun i => [(4, .slice none 0 0), (5, .slice none 0 0), (6, .slice la l.length lc), (11, .slice i.2.2.1 i.2.1.length i.2.2.2.1), (86, .slice b (min ys.length 20) d), (87, .int .i64 ((min ys.length 20) : Nat)), (88, .int .i64 (i.1 : Int))]) (fun i => i.2.2.2.2.1 :: lg :: (i.2.2.2.2.2 ++ η)) (fun i => (min ys.length 20) - i.1) (0, [], none, 0, [], ins) ⟨Nat.zero_le _, rfl, by simp, OSl.nil 50 2, hfr, by simp⟩ ⟨rfl, rfl, rfl, rfl, rfl, rfl, rfl, trivial⟩ rfl ?_
    clear hfr
    rintro ⟨q, all, ia, ic, ig, ins⟩ ⟨hq, hall, hio, hoi, hfr, hir⟩
    dsimp only at hq hall hio hoi hfr hir
    refine T.seq ?_
    refine T.region ?_
    refine TL.bin hF rfl rfl rfl rfl ?_
    refine TL.nil ?_
    refine TQ.then_n ?_
    refine T.seq ?_
    first | refine T.cond_d rfl (fun ht89 => ?_) (fun ht89 => ?_) | refine T.cond _ rfl (fun ht89 => ?_) (fun ht89 => ?_)
    · refine T.skip ?_
      refine TQ.then_n ?_
      refine T.seq ?_
      refine T.block ?_
      refine T.seq ?_
      refine T.region ?_
      refine TL.indexAddr hF rfl rfl (hy.adi (i := q) (by rw [List.length_map]; omega)) (by omega) (by omega) rfl ?_
      refine TL.load hF rfl ((row32 hy (k := q) (by omega)).up (by simp)) rfl ?_
      refine TL.assign hF rfl rfl ?_
      refine TL.nil ?_
      refine TQ.then_n ?_
      refine T.seq ?_
      refine T.region ?_
      have hql : q < ys.length := by omega
      have hn0 := hbb _ (List.getElem_mem hql)
      generalize hnn : ys[q] = n at hn0 ⊢
      refine TL.build hF rfl (r := .agg #[.slice none 0 0, .slice none 0 0]) (fun w => by kernel_rfl) rfl ?_
      refine TL.alloc hF rfl (fun b14 => ?_)
      refine TL.storeAI hF [.slice none 0 0, .slice none 0 0] 0 rfl rfl rfl rfl (by simp [Value.oneCell']) (by simp [Value.cells]) ?_
      refine TL.nil ?_
      refine TQ.then_n ?_
      refine T.seq ?_
      refine T.seq ?_
      refine T.region ?_
      refine TL.move hF rfl rfl ?_
      refine TL.convK hF rfl (wrapN0 hn0) rfl ?_
      refine TL.remN (a := n) (b := 4) hF rfl rfl (by decide) rfl ?_
      refine TL.move hF rfl rfl ?_
      refine TL.nil ?_
      refine TQ.then_n ?_
      refine T.block ?_
      have hcnt : n % 4 < 4 := Nat.mod_lt _ (by decide)
      refine T.hnil ?_
      refine T.loop (ι := Nat × List SetD × Option Addr × Nat × Seg) (fun i => i.1 ≤ n % 4 ∧ i.2.1.length = i.1 ∧ (∀ s ∈ i.2.1, (0 ≤ s.node ∧ s.node < l.length) ∧ (nd l s.node.toNat).op = 0 ∧ (-2147483648 ≤ s.word ∧ s.word ≤ 2147483647)) ∧ OSl 68 2 (.slice i.2.2.1 i.2.1.length i.2.2.2.1) i.2.1.length (i.2.1.flatMap SetD.cells) i.2.2.2.2) (fun i => [(4, .slice none 0 0), (5, .slice none 0 0), (6, .slice la l.length lc), (11, .slice ia all.length ic), (86, .slice b (min ys.length 20) d), (87, .int .i64 ((min ys.length 20) : Nat)), (88, .int .i64 (q : Int)), (13, .int .u32 (n : Int)), (14, ptr b14), (95, .int .i64 ((n % 4 : Nat) : Int)), (96, .int .i64 (i.1 : Int))]) (fun i => i.2.2.2.2 :: [(b14, Obj.cells #[.slice i.2.2.1 i.2.1.length i.2.2.2.1, .slice none 0 0] 50 (0, 0))] :: ig :: lg :: (ins ++ η)) (fun i => n % 4 - i.1) (0, [], none, 0, []) ⟨Nat.zero_le _, rfl, by simp, OSl.nil 68 2⟩ ⟨rfl, rfl, rfl, rfl, rfl, rfl, rfl, rfl, rfl, rfl, rfl, trivial⟩ rfl ?_
      rintro ⟨k, ss, sa, sc, sg⟩ ⟨hk, hsl, hsb, hos⟩
      dsimp only at hk hsl hsb hos
      refine T.seq ?_
      refine T.region ?_
      refine TL.bin hF rfl rfl rfl rfl ?_
      refine TL.nil ?_
      refine TQ.then_n ?_
      refine T.seq ?_
      first | refine T.cond_d rfl (fun ht97 => ?_) (fun ht97 => ?_) | refine T.cond _ rfl (fun ht97 => ?_) (fun ht97 => ?_)
      · refine T.skip ?_
        refine TQ.then_n ?_
        refine T.seq ?_
        refine T.block ?_
        refine T.seq ?_
        refine T.region ?_
        refine TL.move hF rfl rfl ?_
        refine TL.assign hF rfl rfl ?_
        refine TL.nil ?_
        refine TQ.then_n ?_
        have hkk : k < 3 := by omega
        refine T.drawH 19 mixed ?_
        refine DH.pure (i := 0) [(14, _, none)] rfl rfl rfl rfl ⟨⟨rfl, by kernel_rfl⟩, trivial⟩ (fun _ ext => TL.fieldAddr hF rfl rfl TL.fin) ?_
        refine DH.read (i := 1) [(99, _, some 0)] rfl rfl rfl rfl ⟨⟨rfl, rfl, rfl⟩, trivial⟩ (fun ext => TL.load hF rfl (by first | exact At.own' (i := 1) rfl rfl | exact At.own' (i := 2) rfl rfl) rfl TL.fin) ?_
        refine DH.pure (i := 2) [(13, _, none)] rfl rfl rfl rfl ⟨⟨rfl, by kernel_rfl⟩, trivial⟩ (fun _ ext => TL.move hF rfl rfl TL.fin) ?_
        refine DH.pure (i := 3) [(15, _, none)] rfl rfl rfl rfl ⟨⟨rfl, by kernel_rfl⟩, trivial⟩ (fun _ ext => TL.move hF rfl rfl TL.fin) ?_
        refine DH.pure (i := 4) [(102, _, some 3)] rfl rfl rfl rfl ⟨⟨rfl, rfl, rfl⟩, trivial⟩ (fun _ ext => TL.mul hF rfl rfl (by omega) (by omega) rfl TL.fin) ?_
        refine DH.pure (i := 5) [(103, _, some 4)] rfl rfl rfl rfl ⟨⟨rfl, rfl, rfl⟩, trivial⟩ (fun _ ext => TL.add hF rfl rfl (by omega) (by omega) rfl TL.fin) ?_
        refine DH.pure (i := 6) [(101, _, some 2), (104, _, some 5)] rfl rfl rfl rfl ⟨⟨rfl, rfl, rfl⟩, ⟨rfl, rfl, rfl⟩, trivial⟩ (fun _ ext => TL.shrN (a := n) (s := 2 + 2 * k) hF rfl rfl (by show 2 + 2 * k ≤ 32; omega) rfl TL.fin) ?_
        refine DH.pure (i := 7) [(105, _, some 6)] rfl rfl rfl rfl ⟨⟨rfl, rfl, rfl⟩, trivial⟩ (fun _ ext => TL.convK hF rfl (wrapN hn0) rfl TL.fin) ?_
        refine DH.pure (i := 8) [(106, _, some 7)] rfl rfl rfl rfl ⟨⟨rfl, rfl, rfl⟩, trivial⟩ (fun _ ext => TL.remN (a := n / 2 ^ (2 + 2 * k)) (b := 3) hF rfl rfl (by decide) rfl TL.fin) ?_
        refine DH.pure (i := 9) [(13, _, none)] rfl rfl rfl rfl ⟨⟨rfl, by kernel_rfl⟩, trivial⟩ (fun _ ext => TL.move hF rfl rfl TL.fin) ?_
        refine DH.pure (i := 10) [(15, _, none)] rfl rfl rfl rfl ⟨⟨rfl, by kernel_rfl⟩, trivial⟩ (fun _ ext => TL.move hF rfl rfl TL.fin) ?_
        refine DH.pure (i := 11) [(109, _, some 10)] rfl rfl rfl rfl ⟨⟨rfl, rfl, rfl⟩, trivial⟩ (fun _ ext => TL.mul hF rfl rfl (by omega) (by omega) rfl TL.fin) ?_
        refine DH.pure (i := 12) [(110, _, some 11)] rfl rfl rfl rfl ⟨⟨rfl, rfl, rfl⟩, trivial⟩ (fun _ ext => TL.add hF rfl rfl (by omega) (by omega) rfl TL.fin) ?_
        refine DH.pure (i := 13) [(108, _, some 9), (111, _, some 12)] rfl rfl rfl rfl ⟨⟨rfl, rfl, rfl⟩, ⟨rfl, rfl, rfl⟩, trivial⟩ (fun _ ext => TL.shrN (a := n) (s := 10 + 3 * k) hF rfl rfl (by show 10 + 3 * k ≤ 32; omega) rfl TL.fin) ?_
        refine DH.pure (i := 14) [(112, _, some 13)] rfl rfl rfl rfl ⟨⟨rfl, rfl, rfl⟩, trivial⟩ (fun _ ext => TL.convK hF rfl (wrapN hn0) rfl TL.fin) ?_
        refine DH.pure (i := 15) [(113, _, some 14)] rfl rfl rfl rfl ⟨⟨rfl, rfl, rfl⟩, trivial⟩ (fun _ ext => TL.remN (a := n / 2 ^ (10 + 3 * k)) (b := 8) hF rfl rfl (by decide) rfl TL.fin) ?_
        refine DH.pure (i := 16) [(114, _, some 15)] rfl rfl rfl rfl ⟨⟨rfl, rfl, rfl⟩, trivial⟩ (fun _ ext => TL.sub hF rfl rfl (by omega) (by omega) rfl TL.fin) ?_
        refine DH.pure (i := 17) [(107, _, some 8), (115, _, some 16)] rfl rfl rfl rfl ⟨⟨rfl, rfl, rfl⟩, ⟨rfl, rfl, rfl⟩, trivial⟩ (fun _ ext => TL.build hF rfl (r := .agg (SetD.cells ⟨((n / 2 ^ (2 + 2 * k) % 3 : Nat) : Int), ((n / 2 ^ (10 + 3 * k) % 8 : Nat) : Int) - 3⟩).toArray) (fun w => by kernel_rfl) rfl TL.fin) ?_
        refine DH.k1 (by kernel_rfl) (by kernel_rfl) (by kernel_rfl) (by kernel_rfl) (HBK.mk (h := 18) [1] [(116, _, some 17)] rfl rfl rfl ⟨⟨rfl, rfl, rfl⟩, trivial⟩ (by kernel_rfl) (fun ext => ?_))
        refine TL.buildSlice hF rfl (cs := (SetD.cells ⟨((n / 2 ^ (2 + 2 * k) % 3 : Nat) : Int), ((n / 2 ^ (10 + 3 * k) % 8 : Nat) : Int) - 3⟩).toArray) (e := 68) (fun w => by kernel_rfl) rfl (fun b118 => ?_)
        refine TL.finK ⟨⟨_, rfl, _, _, [(99, _, some 0)], rfl, rfl, ⟨⟨rfl, rfl, rfl⟩, trivial⟩, fun ext => TL.load hF rfl (by first | exact At.own' (i := 1) rfl rfl | exact At.own' (i := 2) rfl rfl) rfl TL.fin⟩, trivial⟩ ?_
        refine DH.done [(117, _), (116, _), (115, _), (114, _), (113, _), (112, _), (111, _), (110, _), (109, _), (108, _), (107, _), (106, _), (105, _), (104, _), (103, _), (102, _), (101, _), (100, _), (99, _)] [_, _, _] (by kernel_rfl) (by kernel_rfl) (by kernel_rfl) (by kernel_rfl) rfl rfl ?_
        refine TL.append hF 1 rfl rfl rfl hos (row_own (cs := SetD.cells ⟨((n / 2 ^ (2 + 2 * k) % 3 : Nat) : Int), ((n / 2 ^ (10 + 3 * k) % 8 : Nat) : Int) - 3⟩) (e := 68) List.mem_cons_self).src rfl rfl (scells1 _) (by omega) (by omega) rfl (fun a' cap' seg' ho' => ?_)
        refine TL.fieldAddr hF rfl rfl ?_
        refine TL.storeI hF 2 rfl rfl rfl rfl (by simp) ?_
        refine TL.nil ?_
        refine TQ.block_n ?_
        refine TQ.then_n ?_
        refine T.region ?_
        refine TL.add hF rfl rfl (by omega) (by omega) rfl ?_
        refine TL.move hF rfl rfl ?_
        refine TL.nil ?_
        refine TQ.pop ?_
        refine TQ.round (k + 1, ss ++ [⟨((n / 2 ^ (2 + 2 * k) % 3 : Nat) : Int), ((n / 2 ^ (10 + 3 * k) % 8 : Nat) : Int) - 3⟩], a', cap', seg') ⟨by dsimp only; omega, by simp only [List.length_append, List.length_singleton]; omega, fun s hs => ?_, by simp only [List.length_append, List.length_singleton, List.flatMap_append]; simpa using ho'⟩ (by dsimp only; omega) ⟨rfl, rfl, rfl, rfl, rfl, rfl, rfl, rfl, rfl, rfl, rfl, trivial⟩ (by simp)
        rcases List.mem_append.1 hs with h | h
        · exact hsb s h
        · rw [List.mem_singleton.1 h]
          have h1 := h3op ((n / 2 ^ (2 + 2 * k) % 3 : Nat) : Int) (by omega)
          exact ⟨h1.1, h1.2, by dsimp only; omega⟩
      · refine T.exit ?_
        refine TQ.then_x ?_
        refine TQ.then_x ?_
        refine TQ.block_x ?_
        refine TQ.then_n ?_
        refine T.seq ?_
        refine T.seq ?_
        refine T.region ?_
        refine TL.move hF rfl rfl ?_
        refine TL.shrN (a := n) (s := 20) hF rfl rfl (by decide) rfl ?_
        refine TL.convK hF rfl (wrapN hn0) rfl ?_
        refine TL.remN (a := n / 2 ^ 20) (b := 3) hF rfl rfl (by decide) rfl ?_
        refine TL.move hF rfl rfl ?_
        refine TL.nil ?_
        refine TQ.then_n ?_
        refine T.block ?_
        have hss : ss.length ≤ 3 := by omega
        have hcnt2 : n / 2 ^ 20 % 3 < 3 := Nat.mod_lt _ (by decide)
        refine T.hnil ?_
        refine T.loop (ι := Nat × List Int × Option Addr × Nat × Seg) (fun i => i.1 ≤ n / 2 ^ 20 % 3 ∧ i.2.1.length = i.1 ∧ (∀ f ∈ i.2.1, 0 ≤ f ∧ f < l.length) ∧ OSl 3 1 (.slice i.2.2.1 i.2.1.length i.2.2.2.1) i.2.1.length (ints i.2.1) i.2.2.2.2) (fun i => [(4, .slice none 0 0), (5, .slice none 0 0), (6, .slice la l.length lc), (11, .slice ia all.length ic), (86, .slice b (min ys.length 20) d), (87, .int .i64 ((min ys.length 20) : Nat)), (88, .int .i64 (q : Int)), (13, .int .u32 (n : Int)), (14, ptr b14), (124, .int .i64 ((n / 2 ^ 20 % 3 : Nat) : Int)), (125, .int .i64 (i.1 : Int))]) (fun i => i.2.2.2.2 :: sg :: [(b14, Obj.cells #[.slice sa ss.length sc, .slice i.2.2.1 i.2.1.length i.2.2.2.1] 50 (0, 0))] :: ig :: lg :: (ins ++ η)) (fun i => n / 2 ^ 20 % 3 - i.1) (0, [], none, 0, []) ⟨Nat.zero_le _, rfl, by simp, OSl.nil 3 1⟩ ⟨rfl, rfl, rfl, rfl, rfl, rfl, rfl, rfl, rfl, rfl, rfl, trivial⟩ rfl ?_
        clear hk
        rintro ⟨k, as', aa, ac, ag⟩ ⟨hk, hasl, hasb, hoa⟩
        dsimp only at hk hasl hasb hoa
        refine T.seq ?_
        refine T.region ?_
        refine TL.bin hF rfl rfl rfl rfl ?_
        refine TL.nil ?_
        refine TQ.then_n ?_
        refine T.seq ?_
        first | refine T.cond_d rfl (fun ht126 => ?_) (fun ht126 => ?_) | refine T.cond _ rfl (fun ht126 => ?_) (fun ht126 => ?_)
        · refine T.skip ?_
          refine TQ.then_n ?_
          refine T.seq ?_
          refine T.block ?_
          refine T.seq ?_
          refine T.region ?_
          refine TL.move hF rfl rfl ?_
          refine TL.assign hF rfl rfl ?_
          refine TL.nil ?_
          refine TQ.then_n ?_
          have hkk : k < 3 := by omega
          have hlp : 0 < l.length := by omega
          refine T.drawH 12 mixed ?_
          refine DH.pure (i := 0) [(14, _, none)] rfl rfl rfl rfl ⟨⟨rfl, by kernel_rfl⟩, trivial⟩ (fun _ ext => TL.fieldAddr hF rfl rfl TL.fin) ?_
          refine DH.read (i := 1) [(128, _, some 0)] rfl rfl rfl rfl ⟨⟨rfl, rfl, rfl⟩, trivial⟩ (fun ext => TL.load hF rfl (by first | exact At.own' (i := 2) rfl rfl | exact At.own' (i := 3) rfl rfl) rfl TL.fin) ?_
          refine DH.pure (i := 2) [(13, _, none)] rfl rfl rfl rfl ⟨⟨rfl, by kernel_rfl⟩, trivial⟩ (fun _ ext => TL.move hF rfl rfl TL.fin) ?_
          refine DH.pure (i := 3) [(16, _, none)] rfl rfl rfl rfl ⟨⟨rfl, by kernel_rfl⟩, trivial⟩ (fun _ ext => TL.move hF rfl rfl TL.fin) ?_
          refine DH.pure (i := 4) [(131, _, some 3)] rfl rfl rfl rfl ⟨⟨rfl, rfl, rfl⟩, trivial⟩ (fun _ ext => TL.mul hF rfl rfl (by omega) (by omega) rfl TL.fin) ?_
          refine DH.pure (i := 5) [(132, _, some 4)] rfl rfl rfl rfl ⟨⟨rfl, rfl, rfl⟩, trivial⟩ (fun _ ext => TL.add hF rfl rfl (by omega) (by omega) rfl TL.fin) ?_
          refine DH.pure (i := 6) [(130, _, some 2), (133, _, some 5)] rfl rfl rfl rfl ⟨⟨rfl, rfl, rfl⟩, ⟨rfl, rfl, rfl⟩, trivial⟩ (fun _ ext => TL.shrN (a := n) (s := 22 + 3 * k) hF rfl rfl (by show 22 + 3 * k ≤ 32; omega) rfl TL.fin) ?_
          refine DH.pure (i := 7) [(134, _, some 6)] rfl rfl rfl rfl ⟨⟨rfl, rfl, rfl⟩, trivial⟩ (fun _ ext => TL.convK hF rfl (wrapN hn0) rfl TL.fin) ?_
          refine DH.pure (i := 8) [(6, _, none)] rfl rfl rfl rfl ⟨⟨rfl, by kernel_rfl⟩, trivial⟩ (fun _ ext => TL.move hF rfl rfl TL.fin) ?_
          refine DH.pure (i := 9) [(136, _, some 8)] rfl rfl rfl rfl ⟨⟨rfl, rfl, rfl⟩, trivial⟩ (fun _ ext => TL.len hF rfl rfl TL.fin) ?_
          refine DH.pure (i := 10) [(135, _, some 7), (137, _, some 9)] rfl rfl rfl rfl ⟨⟨rfl, rfl, rfl⟩, ⟨rfl, rfl, rfl⟩, trivial⟩ (fun _ ext => TL.remN (a := n / 2 ^ (22 + 3 * k)) (b := l.length) hF rfl rfl hlp rfl TL.fin) ?_
          refine DH.k1 (by kernel_rfl) (by kernel_rfl) (by kernel_rfl) (by kernel_rfl) (HBK.mk (h := 11) [1] [(138, _, some 10)] rfl rfl rfl ⟨⟨rfl, rfl, rfl⟩, trivial⟩ (by kernel_rfl) (fun ext => ?_))
          refine TL.buildSlice hF rfl (cs := #[.int .i64 ((n / 2 ^ (22 + 3 * k) % l.length : Nat) : Int)]) (e := 3) (fun w => by kernel_rfl) rfl (fun b139 => ?_)
          refine TL.finK ⟨⟨_, rfl, _, _, [(128, _, some 0)], rfl, rfl, ⟨⟨rfl, rfl, rfl⟩, trivial⟩, fun ext => TL.load hF rfl (by first | exact At.own' (i := 2) rfl rfl | exact At.own' (i := 3) rfl rfl) rfl TL.fin⟩, trivial⟩ ?_
          refine DH.done [(139, _), (138, _), (137, _), (136, _), (135, _), (134, _), (133, _), (132, _), (131, _), (130, _), (129, _), (128, _)] [_, _, _] (by kernel_rfl) (by kernel_rfl) (by kernel_rfl) (by kernel_rfl) rfl rfl ?_
          refine TL.append hF 1 rfl rfl rfl hoa (row_own (cs := [.int .i64 ((n / 2 ^ (22 + 3 * k) % l.length : Nat) : Int)]) (e := 3) List.mem_cons_self).src rfl rfl (by simp [Value.oneCell']) (by omega) (by omega) rfl (fun a' cap' seg' ho' => ?_)
          refine TL.fieldAddr hF rfl rfl ?_
          refine TL.storeI hF 3 rfl rfl rfl rfl (by simp) ?_
          refine TL.nil ?_
          refine TQ.block_n ?_
          refine TQ.then_n ?_
          refine T.region ?_
          refine TL.add hF rfl rfl (by omega) (by omega) rfl ?_
          refine TL.move hF rfl rfl ?_
          refine TL.nil ?_
          refine TQ.pop ?_
          have hmod : n / 2 ^ (22 + 3 * k) % l.length < l.length := Nat.mod_lt _ hlp
          refine TQ.round (k + 1, as' ++ [((n / 2 ^ (22 + 3 * k) % l.length : Nat) : Int)], a', cap', seg') ⟨by dsimp only; omega, by simp only [List.length_append, List.length_singleton]; omega, fun f hf => ?_, by simp only [List.length_append, List.length_singleton, ints, List.map_append]; exact ho'⟩ (by dsimp only; omega) ⟨rfl, rfl, rfl, rfl, rfl, rfl, rfl, rfl, rfl, rfl, rfl, trivial⟩ (by simp)
          rcases List.mem_append.1 hf with h | h
          · exact hasb f h
          · rw [List.mem_singleton.1 h]; omega
        · refine T.exit ?_
          refine TQ.then_x ?_
          refine TQ.then_x ?_
          refine TQ.block_x ?_
          refine TQ.then_n ?_
          refine T.region ?_
          refine TL.move hF rfl rfl ?_
          refine TL.loadA hF [.slice sa ss.length sc, .slice aa as'.length ac] rfl rfl (own_list (i := 2) rfl) rfl ?_
          refine TL.buildSlice hF rfl (cs := (InstD.cells ⟨sa, ss, sc, aa, as', ac⟩).toArray) (e := 50) (fun w => by kernel_rfl) rfl (fun b145 => ?_)
          refine TL.append hF 4 rfl rfl rfl hoi (row_own (cs := InstD.cells ⟨sa, ss, sc, aa, as', ac⟩) (e := 50) List.mem_cons_self).src rfl rfl (icells1 _) (by omega) (by omega) rfl (fun a1 cap1 seg1 ho1 => ?_)
          refine TL.assign hF rfl rfl ?_
          refine TL.nil ?_
          refine TQ.block_n ?_
          refine TQ.then_n ?_
          refine T.region ?_
          refine TL.add hF rfl rfl (by omega) (by omega) rfl ?_
          refine TL.move hF rfl rfl ?_
          refine TL.nil ?_
          refine TQ.pick [4, 5, 1, 2] [_, _, _, _, _, _] rfl rfl rfl ?_
          refine TQ.round (q + 1, all ++ [⟨sa, ss, sc, aa, as', ac⟩], a1, cap1, seg1, ag :: sg :: ins) ⟨by dsimp only; omega, by simp only [List.length_append, List.length_singleton]; omega, fun x hx => ?_, by simp only [List.length_append, List.length_singleton, List.flatMap_append]; simpa using ho1, fun x hx => (hfr x hx).up (fun z hz => upc _ (upc _ hz)), fun x hx => ?_⟩ (by dsimp only; omega) ⟨rfl, rfl, rfl, congrArg (fun z : Nat => some (Value.slice a1 z cap1)) (by simp), rfl, rfl, rfl, trivial⟩ rfl
          · rcases List.mem_append.1 hx with h | h
            · exact hio x h
            · rw [List.mem_singleton.1 h]; exact instE_mk (by dsimp only; omega) (by dsimp only; omega) hsb hasb
          · rcases List.mem_append.1 hx with h | h
            · exact ⟨(hir x h).1.up (fun z hz => upc _ (upc _ hz)), (hir x h).2.up (fun z hz => upc _ (upc _ hz))⟩
            · rw [List.mem_singleton.1 h]; exact ⟨hos.row (upc _ List.mem_cons_self), hoa.row List.mem_cons_self⟩
    · refine T.exit ?_
      refine TQ.then_x ?_
      refine TQ.then_x ?_
      refine TQ.block_x ?_
      refine TQ.then_n ?_
      refine T.seq ?_
      refine T.region ?_
      refine TL.move hF rfl rfl ?_
      refine TL.move hF rfl rfl ?_
      refine TL.assign hF rfl rfl ?_
      refine TL.assign hF rfl rfl ?_
      refine TL.nil ?_
      refine TQ.then_n ?_
      refine T.ret ?_
      refine TQ.rets [4, 5] _ rfl rfl rfl ?_
      exact ⟨l, all, la, lc, lg, ia, ic, ig, ins, rfl, rfl, ⟨hit, by omega, by omega, by omega, hio⟩, hol, hoi, hfr, hir⟩
end Go.Proofs.YtefkmiomldhmjaaDoor
/- The inputs' words, and what they lead to. -/
namespace Go.Proofs.YtefkmiomldhmjaaDoor
open Go.Sl
variable {S : Nat → Prop} {w0 : World} {η : Heap}
def in0 (l : List NodeD) (i : Nat) : Bool := decide ((nd l i).op = 0)
def inW (l : List NodeD) (all : List InstD) (k : Nat) : List Int := ((List.range l.length).filter (in0 l)).map (UP l all k)
theorem filt_get {α : Type} {n k : Nat} {p : Nat → Bool} (f : Nat → α) (hk : k < n) (hp : p k = true) : (((List.range n).filter p).map f)[((List.range k).filter p).length]? = some (f k) := by
  have e : List.range n = List.range k ++ k :: (List.range' (k + 1) (n - k - 1)) := by
    rw [List.range_eq_range', List.range_eq_range', show n = k + (1 + (n - k - 1)) by omega, ← List.range'_append_1, ← List.range'_append_1]
    simp
  rw [e, List.filter_append, List.filter_cons, hp, if_pos rfl, List.map_append, List.getElem?_append_right (by simp)]
  simp
theorem rk_filt {l : List NodeD} : ∀ {k : Nat}, k ≤ l.length → rk l k = ((List.range k).filter (in0 l)).length
  | 0, _ => rfl
  | k + 1, h => by
    rw [rk_succ (by omega), rk_filt (k := k) (by omega), List.range_succ, List.filter_append, List.length_append, List.filter_cons]
    unfold in0
    rw [nd_eq (by omega : k < l.length)]
    by_cases h0 : (l[k]'(by omega)).op = 0
    · rw [if_pos h0, decide_eq_true h0]; rfl
    · rw [if_neg h0, decide_eq_false h0]; rfl
theorem inW_get {l : List NodeD} (all : List InstD) (k : Nat) {i : Nat} (hi : i < l.length) (h0 : (nd l i).op = 0) : (inW l all k)[rk l i]? = some (UP l all k i) := by
  rw [rk_filt (by omega)]; exact filt_get _ hi (by unfold in0; exact decide_eq_true h0)
theorem inW_len (l : List NodeD) (all : List InstD) (k : Nat) : (inW l all k).length = nIn l := by
  unfold inW; rw [List.length_map, ← rk_filt (Nat.le_refl _)]; unfold rk; rw [List.take_length]
theorem inW_le (l : List NodeD) (all : List InstD) (k : Nat) : (inW l all k).length ≤ l.length := by
  rw [inW_len]; unfold nIn; exact List.countP_le_length
theorem OSl.cap {e : TypeId} {sz n c : Nat} {a : Option Addr} {xs : List Value} {seg : Seg} (h : OSl e sz (.slice a n c) n xs seg) : n ≤ c := by
  rcases h.2 with ⟨h1, h2, _⟩ | ⟨g, cap, cur, h1, _, h3, _⟩
  · omega
  · simp only [Value.slice.injEq] at h1; omega
/-- Words from scratch, for an instant's inputs. -/
theorem scr_VP {l : List NodeD} (hok : Ok l) (all : List InstD) (k : Nat) : ∀ i, i < l.length → scrF l (inW l all k) l.length i = VP l all k i := by
  intro i hi
  have h1 := wholeF_scr hok (inW l all k) l.length (Nat.le_refl _) i hi
  rw [if_pos hi] at h1
  rw [← h1]
  have key : ∀ i, i < l.length → finW l (inV l (inW l all k) l.length) i = VP l all k i := by
    intro i
    induction i using Nat.strongRecOn with
    | ind i ih =>
    intro hi
    unfold VP
    by_cases h0 : (nd l i).op = 0
    · rw [fin_in h0, fin_in h0]
      unfold inV
      rw [if_pos ⟨hi, h0⟩, List.getD_eq_getElem?_getD, inW_get all k hi h0]; rfl
    · rw [fin_op hok hi h0, fin_op hok hi h0]
      refine comp_congr fun f hf => ?_
      rw [nd_eq hi] at hf
      have := hok.fr i hi f hf
      exact ih f.toNat (by omega) (by omega)
  exact key i hi
theorem UP_range {l : List NodeD} {all : List InstD} (h : Rn l all) : ∀ k, k ≤ all.length → ∀ i, -2147483648 ≤ UP l all k i ∧ UP l all k i ≤ 2147483647
  | 0, _, i => start_range h.ok i
  | k + 1, hk, i => by
    rw [UP_succ l (by omega)]
    exact setsF_range (fun x hx => (setsOk_get (instE_ok (h.io k (by omega))).2.2.1 hx).2.2) (UP_range h k (by omega)) i
theorem scratch_VP {l : List NodeD} {all : List InstD} (h : Rn l all) (hv : valid l = true) {k : Nat} (hk : k ≤ all.length) : scratchS l (inW l all k) = ((List.range l.length).map (VP l all k), 0) := by
  unfold scratchS
  rw [if_pos hv, if_pos (inW_len l all k).symm, if_pos]
  · congr 1
    exact List.map_congr_left fun i hi => scr_VP h.ok all k i (List.mem_range.1 hi)
  · refine List.all_eq_true.2 fun w hw => ?_
    obtain ⟨i, _, rfl⟩ := List.mem_map.1 hw
    exact isW_iff.2 (UP_range h k hk i)

set_option maxHeartbeats 2000000 in
theorem inputs_fn {a : Option Addr} {l : List NodeD} {c : Nat} {ia' : Option Addr} {all : List InstD} {ic now : Nat} (hn : Nodes S w0 [] a l) (hi : Insts S w0 [] ia' all) (hr : Rn l all) (hk : now < all.length) (hic : all.length ≤ ic) (hal : all.length ≤ 1000) :
    Rt Tryd.prog 29 [.slice a l.length c, .slice ia' all.length ic, .int .i64 (now : Int)].toArray S w0 η (fun v η' => ∃ a cap seg, v = .slice a (inW l all (now + 1)).length cap ∧ η' = seg :: η ∧ Row S w0 [seg] a (ints (inW l all (now + 1)))) := by
  have hF := open_wide
  refine Rt.of (fn := Tryd.f29) Tryd.func29 rfl rfl ?_
  refine T.seq ?_
  refine T.region ?_
  refine TL.assign hF rfl rfl ?_
  refine TL.nil ?_
  refine TQ.then_n ?_
  refine T.seq ?_
  refine T.region ?_
  refine TL.move hF rfl rfl ?_
  refine TL.len hF rfl rfl ?_
  have hok := hr.ok
  have hlen := hok.len
  refine TL.makeSlice hF rfl rfl rfl (by omega) (by omega) rfl (fun b19 => ?_)
  rw [intC_zero]
  refine TL.assign hF rfl rfl ?_
  refine TL.nil ?_
  refine TQ.then_n ?_
  refine T.seq ?_
  refine T.seq ?_
  refine T.region ?_
  refine TL.move hF rfl rfl ?_
  refine TL.len hF rfl rfl ?_
  refine TL.move hF rfl rfl ?_
  refine TL.nil ?_
  refine TQ.then_n ?_
  refine T.block ?_
  refine T.loop (ι := Nat) (fun k => k ≤ l.length) (fun k => [(0, .slice a l.length c), (1, .slice ia' all.length ic), (2, .int .i64 (now : Int)), (6, .slice none 0 0), (7, .slice (some ⟨b19, 0, none⟩) l.length l.length), (20, .slice a l.length c), (21, .int .i64 (l.length : Int)), (22, .int .i64 (k : Int))]) (fun k => iseg b19 l.length (fun i => if i < k then (startS l).W i else 0) :: η) (fun k => l.length - k) 0 (Nat.zero_le _) ⟨rfl, rfl, rfl, rfl, rfl, rfl, rfl, rfl, trivial⟩ (iseg_congr (fun i _ => by simp)) ?_
  intro k hk2
  refine T.seq ?_
  refine T.region ?_
  refine TL.bin hF rfl rfl rfl rfl ?_
  refine TL.nil ?_
  refine TQ.then_n ?_
  refine T.seq ?_
  first | refine T.cond_d rfl (fun ht23 => ?_) (fun ht23 => ?_) | refine T.cond _ rfl (fun ht23 => ?_) (fun ht23 => ?_)
  · refine T.skip ?_
    refine TQ.then_n ?_
    refine T.seq ?_
    refine T.block ?_
    refine T.seq ?_
    refine T.region ?_
    refine TL.move hF rfl rfl ?_
    refine TL.indexAddr hF rfl rfl (hn.ad (i := k) (by omega)) (by omega) (by omega) rfl ?_
    refine TL.loadA hF (l[k]'(by omega)).cells rfl rfl (hn.ro.atA (i := k) (by omega)) rfl ?_
    refine TL.alloc hF rfl (fun b9 => ?_)
    refine TL.assign hF rfl rfl ?_
    refine TL.storeAI hF (l[k]'(by omega)).cells 0 rfl rfl rfl rfl (ncells1 _) (by simp [Value.cells, ncl]) ?_
    refine TL.nil ?_
    refine TQ.then_n ?_
    refine T.seq ?_
    refine T.region ?_
    refine TL.fieldAddr hF rfl rfl ?_
    refine TL.load hF rfl (by first | exact At.own' (i := 0) rfl rfl | exact At.own' (i := 1) rfl rfl | exact At.own' (i := 2) rfl rfl | exact At.own' (i := 3) rfl rfl | exact At.own' (i := 4) rfl rfl | exact At.own' (i := 5) rfl rfl | exact At.own' (i := 6) rfl rfl | exact At.own' (i := 7) rfl rfl | exact At.own' (i := 8) rfl rfl | exact At.own' (i := 9) rfl rfl | exact At.own' (i := 10) rfl rfl | exact At.own' (i := 11) rfl rfl | exact At.own' (i := 12) rfl rfl) rfl ?_
    refine TL.bin hF rfl rfl rfl rfl ?_
    refine TL.nil ?_
    refine TQ.then_n ?_
    first | refine T.cond_d rfl (fun ht29 => ?_) (fun ht29 => ?_) | refine T.cond _ rfl (fun ht29 => ?_) (fun ht29 => ?_)
    · refine T.region ?_
      refine TL.move hF rfl rfl ?_
      refine TL.move hF rfl rfl ?_
      refine TL.fieldAddr hF rfl rfl ?_
      refine TL.load hF rfl (by first | exact At.own' (i := 0) rfl rfl | exact At.own' (i := 1) rfl rfl | exact At.own' (i := 2) rfl rfl | exact At.own' (i := 3) rfl rfl | exact At.own' (i := 4) rfl rfl | exact At.own' (i := 5) rfl rfl | exact At.own' (i := 6) rfl rfl | exact At.own' (i := 7) rfl rfl | exact At.own' (i := 8) rfl rfl | exact At.own' (i := 9) rfl rfl | exact At.own' (i := 10) rfl rfl | exact At.own' (i := 11) rfl rfl | exact At.own' (i := 12) rfl rfl) rfl ?_
      refine TL.indexAddr hF rfl rfl ⟨_, rfl, rfl⟩ (by omega) (by omega) rfl ?_
      refine TL.storeI hF 1 rfl rfl rfl rfl (by simp [intC_len]; omega) ?_
      refine TL.nil ?_
      refine TQ.block_n ?_
      refine TQ.then_n ?_
      refine T.region ?_
      refine TL.add hF rfl rfl (by omega) (by omega) rfl ?_
      refine TL.move hF rfl rfl ?_
      refine TL.nil ?_
      refine TQ.pop ?_
      refine TQ.round (k + 1) (by omega) (by omega) ⟨rfl, rfl, rfl, rfl, rfl, rfl, rfl, rfl, trivial⟩ (iseg_set (j := k) (by simp) (fun i _ => ?_))
      by_cases h : i = k
      · subst h; rw [if_pos rfl, if_pos (by omega)]; show (if (nd l i).op = 0 then (nd l i).n else 0) = _; rw [nd_eq (by omega), if_pos ht29]
      · rw [if_neg h]
        by_cases h2 : i < k
        · rw [if_pos h2, if_pos (by omega)]
        · rw [if_neg h2, if_neg (by omega)]
    · refine T.skip ?_
      refine TQ.block_n ?_
      refine TQ.then_n ?_
      refine T.region ?_
      refine TL.add hF rfl rfl (by omega) (by omega) rfl ?_
      refine TL.move hF rfl rfl ?_
      refine TL.nil ?_
      refine TQ.pop ?_
      refine TQ.round (k + 1) (by omega) (by omega) ⟨rfl, rfl, rfl, rfl, rfl, rfl, rfl, rfl, trivial⟩ (iseg_congr (fun i _ => ?_))
      by_cases h : i = k
      · subst h; rw [if_neg (by omega), if_pos (by omega)]; show 0 = (if (nd l i).op = 0 then (nd l i).n else 0); rw [nd_eq (by omega), if_neg ht29]
      · by_cases h2 : i < k
        · rw [if_pos h2, if_pos (by omega)]
        · rw [if_neg h2, if_neg (by omega)]
  · refine T.exit ?_
    refine TQ.then_x ?_
    refine TQ.then_x ?_
    refine TQ.block_x ?_
    refine TQ.then_n ?_
    refine T.seq ?_
    refine T.seq ?_
    refine T.region ?_
    refine TL.move hF rfl rfl ?_
    refine TL.move hF rfl rfl ?_
    refine TL.add hF rfl rfl (by omega) (by omega) rfl ?_
    refine TL.slice hF (i := 0) (j := now + 1) rfl rfl rfl (by omega) (by omega) rfl ?_
    rw [cut0', Nat.sub_zero, Nat.sub_zero]
    refine TL.len hF rfl rfl ?_
    refine TL.move hF rfl rfl ?_
    refine TL.nil ?_
    refine TQ.then_n ?_
    refine T.block ?_
    have hkn : k = l.length := by omega
    subst hkn
    refine T.loop (ι := Nat) (fun k => k ≤ now + 1) (fun k => [(0, .slice a l.length c), (6, .slice none 0 0), (7, .slice (some ⟨b19, 0, none⟩) l.length l.length), (39, .slice ia' (now + 1) ic), (40, .int .i64 ((now + 1 : Nat) : Int)), (41, .int .i64 (k : Int))]) (fun k => iseg b19 l.length (UP l all k) :: η) (fun k => now + 1 - k) 0 (Nat.zero_le _) ⟨rfl, rfl, rfl, rfl, rfl, rfl, trivial⟩ (iseg_congr (fun i hi => by rw [if_pos hi]; rfl)) ?_
    intro k hk3
    refine T.seq ?_
    refine T.region ?_
    refine TL.bin hF rfl rfl rfl rfl ?_
    refine TL.nil ?_
    refine TQ.then_n ?_
    refine T.seq ?_
    first | refine T.cond_d rfl (fun ht42 => ?_) (fun ht42 => ?_) | refine T.cond _ rfl (fun ht42 => ?_) (fun ht42 => ?_)
    · refine T.skip ?_
      refine TQ.then_n ?_
      refine T.seq ?_
      refine T.block ?_
      refine T.seq ?_
      refine T.region ?_
      refine TL.indexAddr hF rfl rfl (hi.ad (i := k) (by omega)) (by omega) (by omega) rfl ?_
      refine TL.loadA hF (all[k]'(by omega)).cells rfl rfl (hi.ro.atA (i := k) (by omega)) rfl ?_
      refine TL.alloc hF rfl (fun b11 => ?_)
      refine TL.storeAI hF (all[k]'(by omega)).cells 0 rfl rfl rfl rfl (icells1 _) (by simp [Value.cells, icl]) ?_
      refine TL.nil ?_
      refine TQ.then_n ?_
      refine T.seq ?_
      refine T.region ?_
      refine TL.fieldAddr hF rfl rfl ?_
      refine TL.load hF rfl (by first | exact At.own' (i := 0) rfl rfl | exact At.own' (i := 1) rfl rfl | exact At.own' (i := 2) rfl rfl | exact At.own' (i := 3) rfl rfl | exact At.own' (i := 4) rfl rfl | exact At.own' (i := 5) rfl rfl | exact At.own' (i := 6) rfl rfl | exact At.own' (i := 7) rfl rfl | exact At.own' (i := 8) rfl rfl | exact At.own' (i := 9) rfl rfl | exact At.own' (i := 10) rfl rfl | exact At.own' (i := 11) rfl rfl | exact At.own' (i := 12) rfl rfl) rfl ?_
      refine TL.len hF rfl rfl ?_
      refine TL.move hF rfl rfl ?_
      refine TL.nil ?_
      refine TQ.then_n ?_
      refine T.block ?_
      have hkl : k < all.length := by omega
      have hio := instE_ok (hr.io k hkl)
      have eia := ia_eq hkl
      rw [eia] at hio
      have hsr := hi.srow hkl
      refine T.loop (ι := Nat) (fun j => j ≤ (all[k]).sets.length) (fun j => [(0, .slice a l.length c), (6, .slice none 0 0), (7, .slice (some ⟨b19, 0, none⟩) l.length l.length), (39, .slice ia' (now + 1) ic), (40, .int .i64 ((now + 1 : Nat) : Int)), (41, .int .i64 (k : Int)), (46, .slice (all[k]).sa (all[k]).sets.length (all[k]).sc), (47, .int .i64 ((all[k]).sets.length : Int)), (48, .int .i64 (j : Int))]) (fun j => [(b11, Obj.cells (all[k]).cells.toArray 50 (0, 0))] :: iseg b19 l.length (setsF (UP l all k) ((all[k]).sets.take j)) :: η) (fun j => (all[k]).sets.length - j) 0 (Nat.zero_le _) ⟨rfl, rfl, rfl, rfl, rfl, rfl, rfl, rfl, rfl, trivial⟩ rfl ?_
      intro j hj
      refine T.seq ?_
      refine T.region ?_
      refine TL.bin hF rfl rfl rfl rfl ?_
      refine TL.nil ?_
      refine TQ.then_n ?_
      refine T.seq ?_
      first | refine T.cond_d rfl (fun ht49 => ?_) (fun ht49 => ?_) | refine T.cond _ rfl (fun ht49 => ?_) (fun ht49 => ?_)
      · refine T.skip ?_
        refine TQ.then_n ?_
        refine T.seq ?_
        refine T.block ?_
        refine T.seq ?_
        refine T.region ?_
        refine TL.indexAddr hF rfl rfl (hsr.tad scl (by decide) (i := j) (by omega)) (by omega) (by omega) rfl ?_
        refine TL.loadA hF ((all[k]).sets[j]'(by omega)).cells rfl rfl (hsr.ro.tabA scl (i := j) (by omega)) rfl ?_
        refine TL.alloc hF rfl (fun b13 => ?_)
        refine TL.storeAI hF ((all[k]).sets[j]'(by omega)).cells 0 rfl rfl rfl rfl (scells1 _) (by simp [Value.cells, scl]) ?_
        refine TL.nil ?_
        refine TQ.then_n ?_
        refine T.region ?_
        refine TL.move hF rfl rfl ?_
        refine TL.fieldAddr hF rfl rfl ?_
        refine TL.load hF rfl (by first | exact At.own' (i := 0) rfl rfl | exact At.own' (i := 1) rfl rfl | exact At.own' (i := 2) rfl rfl | exact At.own' (i := 3) rfl rfl | exact At.own' (i := 4) rfl rfl | exact At.own' (i := 5) rfl rfl | exact At.own' (i := 6) rfl rfl | exact At.own' (i := 7) rfl rfl | exact At.own' (i := 8) rfl rfl | exact At.own' (i := 9) rfl rfl | exact At.own' (i := 10) rfl rfl | exact At.own' (i := 11) rfl rfl | exact At.own' (i := 12) rfl rfl) rfl ?_
        refine TL.fieldAddr hF rfl rfl ?_
        refine TL.load hF rfl (by first | exact At.own' (i := 0) rfl rfl | exact At.own' (i := 1) rfl rfl | exact At.own' (i := 2) rfl rfl | exact At.own' (i := 3) rfl rfl | exact At.own' (i := 4) rfl rfl | exact At.own' (i := 5) rfl rfl | exact At.own' (i := 6) rfl rfl | exact At.own' (i := 7) rfl rfl | exact At.own' (i := 8) rfl rfl | exact At.own' (i := 9) rfl rfl | exact At.own' (i := 10) rfl rfl | exact At.own' (i := 11) rfl rfl | exact At.own' (i := 12) rfl rfl) rfl ?_
        have hjl : j < (all[k]).sets.length := by omega
        have hset := setsOk_get hio.2.2.1 (List.getElem_mem hjl)
        refine TL.indexAddr hF rfl rfl ⟨_, rfl, rfl⟩ (by omega) (by omega) rfl ?_
        refine TL.storeI hF 2 rfl rfl rfl rfl (by simp [intC_len]; omega) ?_
        refine TL.nil ?_
        refine TQ.block_n ?_
        refine TQ.then_n ?_
        refine T.region ?_
        refine TL.add hF rfl rfl (by omega) (by omega) rfl ?_
        refine TL.move hF rfl rfl ?_
        refine TL.nil ?_
        refine TQ.pop ?_
        refine TQ.round (j + 1) (by omega) (by omega) ⟨rfl, rfl, rfl, rfl, rfl, rfl, rfl, rfl, rfl, trivial⟩ (congrArg (fun z => [(b11, Obj.cells (all[k]).cells.toArray 50 (0, 0))] :: z) (iseg_set (j := ((all[k]).sets[j]).node.toNat) (by simp) (fun i _ => ?_)))
        rw [setsF_succ hjl]; rfl
      · refine T.exit ?_
        refine TQ.then_x ?_
        refine TQ.then_x ?_
        refine TQ.block_x ?_
        refine TQ.block_n ?_
        refine TQ.then_n ?_
        refine T.region ?_
        refine TL.add hF rfl rfl (by omega) (by omega) rfl ?_
        refine TL.move hF rfl rfl ?_
        refine TL.nil ?_
        refine TQ.pop ?_
        refine TQ.round (k + 1) (by omega) (by omega) ⟨rfl, rfl, rfl, rfl, rfl, rfl, trivial⟩ (iseg_congr (fun i _ => ?_))
        rw [UP_succ l hkl, eia, List.take_of_length_le (by omega)]
    · refine T.exit ?_
      refine TQ.then_x ?_
      refine TQ.then_x ?_
      refine TQ.block_x ?_
      refine TQ.then_n ?_
      refine T.seq ?_
      refine T.region ?_
      refine TL.assign hF rfl rfl ?_
      refine TL.nil ?_
      refine TQ.then_n ?_
      refine T.seq ?_
      refine T.seq ?_
      refine T.region ?_
      refine TL.move hF rfl rfl ?_
      refine TL.len hF rfl rfl ?_
      refine TL.move hF rfl rfl ?_
      refine TL.nil ?_
      refine TQ.then_n ?_
      refine T.block ?_
      have hkn : k = now + 1 := by omega
      subst hkn
      refine T.hnil ?_
      refine T.loop (ι := Nat × Option Addr × Nat × Seg) (fun i => i.1 ≤ l.length ∧ OSl 3 1 (.slice i.2.1 ((List.range i.1).filter (in0 l)).length i.2.2.1) ((List.range i.1).filter (in0 l)).length (ints (((List.range i.1).filter (in0 l)).map (UP l all (now + 1)))) i.2.2.2) (fun i => [(6, .slice none 0 0), (7, .slice (some ⟨b19, 0, none⟩) l.length l.length), (14, .slice i.2.1 ((List.range i.1).filter (in0 l)).length i.2.2.1), (60, .slice a l.length c), (61, .int .i64 (l.length : Int)), (62, .int .i64 (i.1 : Int))]) (fun i => i.2.2.2 :: iseg b19 l.length (UP l all (now + 1)) :: η) (fun i => l.length - i.1) (0, none, 0, []) ⟨Nat.zero_le _, OSl.nil 3 1⟩ ⟨rfl, rfl, rfl, rfl, rfl, rfl, trivial⟩ rfl ?_
      rintro ⟨k, oa, oc, og⟩ ⟨hk4, ho⟩
      dsimp only at hk4 ho
      have hrl : ((List.range k).filter (in0 l)).length ≤ k := by have := List.length_filter_le (in0 l) (List.range k); rw [List.length_range] at this; exact this
      refine T.seq ?_
      refine T.region ?_
      refine TL.bin hF rfl rfl rfl rfl ?_
      refine TL.nil ?_
      refine TQ.then_n ?_
      refine T.seq ?_
      first | refine T.cond_d rfl (fun ht63 => ?_) (fun ht63 => ?_) | refine T.cond _ rfl (fun ht63 => ?_) (fun ht63 => ?_)
      · refine T.skip ?_
        refine TQ.then_n ?_
        refine T.seq ?_
        refine T.block ?_
        refine T.seq ?_
        refine T.region ?_
        refine TL.move hF rfl rfl ?_
        refine TL.indexAddr hF rfl rfl (hn.ad (i := k) (by omega)) (by omega) (by omega) rfl ?_
        refine TL.loadA hF (l[k]'(by omega)).cells rfl rfl (hn.ro.atA (i := k) (by omega)) rfl ?_
        refine TL.alloc hF rfl (fun b16 => ?_)
        refine TL.assign hF rfl rfl ?_
        refine TL.storeAI hF (l[k]'(by omega)).cells 0 rfl rfl rfl rfl (ncells1 _) (by simp [Value.cells, ncl]) ?_
        refine TL.nil ?_
        refine TQ.then_n ?_
        refine T.seq ?_
        refine T.region ?_
        refine TL.fieldAddr hF rfl rfl ?_
        refine TL.load hF rfl (by first | exact At.own' (i := 0) rfl rfl | exact At.own' (i := 1) rfl rfl | exact At.own' (i := 2) rfl rfl | exact At.own' (i := 3) rfl rfl | exact At.own' (i := 4) rfl rfl | exact At.own' (i := 5) rfl rfl | exact At.own' (i := 6) rfl rfl | exact At.own' (i := 7) rfl rfl | exact At.own' (i := 8) rfl rfl | exact At.own' (i := 9) rfl rfl | exact At.own' (i := 10) rfl rfl | exact At.own' (i := 11) rfl rfl | exact At.own' (i := 12) rfl rfl) rfl ?_
        refine TL.bin hF rfl rfl rfl rfl ?_
        refine TL.nil ?_
        refine TQ.then_n ?_
        first | refine T.cond_d rfl (fun ht69 => ?_) (fun ht69 => ?_) | refine T.cond _ rfl (fun ht69 => ?_) (fun ht69 => ?_)
        · refine T.region ?_
          refine TL.move hF rfl rfl ?_
          refine TL.move hF rfl rfl ?_
          refine TL.move hF rfl rfl ?_
          refine TL.indexAddr hF rfl rfl ⟨_, rfl, rfl⟩ (by omega) (by omega) rfl ?_
          refine TL.load hF rfl (iseg_at (f := UP l all (now + 1)) (n := l.length) (b := b19) (j := k) (upc _ (upc _ List.mem_cons_self)) (by omega)) rfl ?_
          refine TL.buildSlice hF rfl (cs := #[.int .i64 (UP l all (now + 1) k)]) (e := 3) (fun w => by kernel_rfl) rfl (fun b75 => ?_)
          refine TL.append hF 2 rfl rfl rfl ho (row_own (cs := [.int .i64 (UP l all (now + 1) k)]) (e := 3) List.mem_cons_self).src rfl rfl (by simp [Value.oneCell']) (by omega) (by omega) rfl (fun a' cap' seg' ho' => ?_)
          refine TL.assign hF rfl rfl ?_
          refine TL.nil ?_
          refine TQ.block_n ?_
          refine TQ.then_n ?_
          refine T.region ?_
          refine TL.add hF rfl rfl (by omega) (by omega) rfl ?_
          refine TL.move hF rfl rfl ?_
          refine TL.nil ?_
          refine TQ.pop (TQ.pop ?_)
          have hb : in0 l k = true := by unfold in0; rw [nd_eq (by omega)]; exact decide_eq_true ht69
          have e : ((List.range (k + 1)).filter (in0 l)) = ((List.range k).filter (in0 l)) ++ [k] := by rw [List.range_succ, List.filter_append, List.filter_cons, hb]; rfl
          have e1 : ((List.range k).filter (in0 l)).length + 1 = ((List.range (k + 1)).filter (in0 l)).length := by rw [e]; simp
          refine TQ.round (k + 1, a', cap', seg') ⟨by dsimp only; omega, ?_⟩ (by dsimp only; omega) ⟨rfl, rfl, congrArg (fun z => some (Value.slice a' z cap')) e1, rfl, rfl, rfl, trivial⟩ rfl
          dsimp only
          rw [← e1, e, List.map_append, ints, List.map_append]; exact ho'
        · refine T.skip ?_
          refine TQ.block_n ?_
          refine TQ.then_n ?_
          refine T.region ?_
          refine TL.add hF rfl rfl (by omega) (by omega) rfl ?_
          refine TL.move hF rfl rfl ?_
          refine TL.nil ?_
          refine TQ.pop ?_
          have hb : in0 l k = false := by unfold in0; rw [nd_eq (by omega)]; exact decide_eq_false ht69
          have e : ((List.range (k + 1)).filter (in0 l)) = ((List.range k).filter (in0 l)) := by rw [List.range_succ, List.filter_append, List.filter_cons, hb]; simp
          refine TQ.round (k + 1, oa, oc, og) ⟨by dsimp only; omega, by dsimp only; rw [e]; exact ho⟩ (by dsimp only; omega) ⟨rfl, rfl, congrArg (fun z : List Nat => some (Value.slice oa z.length oc)) e.symm, rfl, rfl, rfl, trivial⟩ rfl
      · refine T.exit ?_
        refine TQ.then_x ?_
        refine TQ.then_x ?_
        refine TQ.block_x ?_
        refine TQ.then_n ?_
        refine T.seq ?_
        refine T.region ?_
        refine TL.move hF rfl rfl ?_
        refine TL.assign hF rfl rfl ?_
        refine TL.nil ?_
        refine TQ.then_n ?_
        refine T.ret ?_
        have hkn : k = l.length := by omega
        subst hkn
        refine TQ.hsub (og :: η) (List.Sublist.cons_cons _ (List.sublist_cons_self _ _)) ?_
        refine TQ.rets [6] _ rfl rfl rfl ?_
        exact ⟨oa, oc, og, congrArg (fun z => Value.slice oa z oc) (by simp [inW]), rfl, ho.row List.mem_cons_self⟩
set_option maxHeartbeats 2000000 in
theorem leads_fn {a : Option Addr} {l : List NodeD} {c : Nat} {ia' : Option Addr} {all : List InstD} {ic now : Nat} (hn : Nodes S w0 [] a l) (hi : Insts S w0 [] ia' all) (hr : Rn l all) (hk : now < all.length) (hic : all.length ≤ ic) (hal : all.length ≤ 1000) :
    Rt Tryd.prog 30 [.slice a l.length c, .slice ia' all.length ic, .int .i64 (now : Int)].toArray S w0 η (fun v η' => ∃ b, v = .slice (some ⟨b, 0, none⟩) l.length l.length ∧ η' = bseg b l.length (leadF l all now) :: η) := by
  have hF := open_wide
  refine Rt.of (fn := Tryd.f30) Tryd.func30 rfl rfl ?_
  refine T.seq ?_
  refine T.region ?_
  refine TL.assign hF rfl rfl ?_
  refine TL.nil ?_
  refine TQ.then_n ?_
  refine T.seq ?_
  refine T.region ?_
  refine TL.move hF rfl rfl ?_
  refine TL.len hF rfl rfl ?_
  have hok := hr.ok
  have hlen := hok.len
  refine TL.makeSlice hF rfl rfl rfl (by omega) (by omega) rfl (fun b18 => ?_)
  rw [rowC_false]
  refine TL.assign hF rfl rfl ?_
  refine TL.nil ?_
  refine TQ.then_n ?_
  refine T.seq ?_
  refine T.region ?_
  refine TL.move hF rfl rfl ?_
  refine TL.len hF rfl rfl ?_
  refine TL.makeSlice hF rfl rfl rfl (by omega) (by omega) rfl (fun b21 => ?_)
  rw [intC_zero]
  refine TL.assign hF rfl rfl ?_
  refine TL.nil ?_
  refine TQ.then_n ?_
  refine T.seq ?_
  refine T.region ?_
  refine TL.assign hF rfl rfl ?_
  refine TL.nil ?_
  refine TQ.then_n ?_
  refine T.seq ?_
  refine T.region ?_
  refine TL.assign hF rfl rfl ?_
  refine TL.nil ?_
  refine TQ.then_n ?_
  refine T.cut (ι := Option Addr × Nat × Nat × Seg) (fun i => 0 < now → i.2.1 = (inW l all now).length ∧ Row S w0 [i.2.2.2] i.1 (ints (inW l all now))) (fun i => [(0, .slice a l.length c), (1, .slice ia' all.length ic), (2, .int .i64 (now : Int)), (6, .slice none 0 0), (7, .slice (some ⟨b18, 0, none⟩) l.length l.length), (8, .slice (some ⟨b21, 0, none⟩) l.length l.length), (9, .int .i64 0), (10, .slice i.1 i.2.1 i.2.2.1)]) (fun i => i.2.2.2 :: iseg b21 l.length (fun _ => 0) :: bseg b18 l.length (fun _ => false) :: η) ?_ ?_
  · refine T.seq ?_
    refine T.region ?_
    refine TL.move hF rfl rfl ?_
    refine TL.bin hF rfl rfl rfl rfl ?_
    refine TL.nil ?_
    refine TQ.then_n ?_
    first | refine T.cond_d rfl (fun ht23 => ?_) (fun ht23 => ?_) | refine T.cond _ rfl (fun ht23 => ?_) (fun ht23 => ?_)
    · refine T.region ?_
      refine TL.move hF rfl rfl ?_
      refine TL.move hF rfl rfl ?_
      refine TL.move hF rfl rfl ?_
      refine TL.sub hF rfl rfl (by omega) (by omega) rfl ?_
      rw [show ((now : Int) - 1) = ((now - 1 : Nat) : Int) by omega]
      refine TL.call hF (inputs_fn hn hi hr (by omega) hic hal) rfl rfl ?_
      rintro _ _ ⟨oa, oc, og, rfl, rfl, hold⟩
      rw [Nat.sub_add_cancel (by omega)] at hold ⊢
      refine TL.assign hF rfl rfl ?_
      refine TL.nil ?_
      exact TQ.cut (oa, _, oc, og) (fun _ => ⟨rfl, hold⟩) ⟨rfl, rfl, rfl, rfl, rfl, rfl, rfl, rfl, trivial⟩ rfl
    · refine T.skip ?_
      refine TQ.hnil ?_
      exact TQ.cut (none, 0, 0, []) (fun h => absurd h (by omega)) ⟨rfl, rfl, rfl, rfl, rfl, rfl, rfl, rfl, trivial⟩ rfl
  · rintro ⟨oa, ol, oc, og⟩ hold
    dsimp only at hold
    refine T.seq ?_
    refine T.region ?_
    refine TL.move hF rfl rfl ?_
    refine TL.move hF rfl rfl ?_
    refine TL.move hF rfl rfl ?_
    refine TL.call hF (inputs_fn hn hi hr hk hic hal) rfl rfl ?_
    rintro _ _ ⟨na, nc, ng, rfl, rfl, hnext⟩
    refine TL.assign hF rfl rfl ?_
    refine TL.nil ?_
    refine TQ.then_n ?_
    refine T.seq ?_
    refine T.seq ?_
    refine T.region ?_
    refine TL.move hF rfl rfl ?_
    refine TL.len hF rfl rfl ?_
    refine TL.move hF rfl rfl ?_
    refine TL.nil ?_
    refine TQ.then_n ?_
    refine T.block ?_
    have hnl := inW_le l all (now + 1)
    have hol := inW_le l all now
    refine T.pick [3, 2, 0, 1] [_, _, _, _] rfl rfl rfl ?_
    refine T.loop (ι := Nat × (Nat → Int)) (fun i => i.1 ≤ l.length) (fun i => [(2, .int .i64 (now : Int)), (6, .slice none 0 0), (7, .slice (some ⟨b18, 0, none⟩) l.length l.length), (8, .slice (some ⟨b21, 0, none⟩) l.length l.length), (9, .int .i64 (rk l i.1 : Int)), (10, .slice oa ol oc), (11, .slice na (inW l all (now + 1)).length nc), (33, .slice a l.length c), (34, .int .i64 (l.length : Int)), (35, .int .i64 (i.1 : Int))]) (fun i => bseg b18 l.length (fun t => if t < i.1 then leadF l all now t else false) :: iseg b21 l.length i.2 :: ng :: og :: η) (fun i => l.length - i.1) (0, fun _ => 0) (Nat.zero_le _) ⟨rfl, rfl, rfl, rfl, rfl, rfl, rfl, rfl, rfl, rfl, trivial⟩ (bseg_congr (fun i _ => by simp)) ?_
    rintro ⟨k, gb⟩ hk2
    dsimp only at hk2
    have hrk := rk_le l k
    refine T.seq ?_
    refine T.region ?_
    refine TL.bin hF rfl rfl rfl rfl ?_
    refine TL.nil ?_
    refine TQ.then_n ?_
    refine T.seq ?_
    first | refine T.cond_d rfl (fun ht36 => ?_) (fun ht36 => ?_) | refine T.cond _ rfl (fun ht36 => ?_) (fun ht36 => ?_)
    · refine T.skip ?_
      refine TQ.then_n ?_
      refine T.seq ?_
      refine T.block ?_
      refine T.seq ?_
      refine T.region ?_
      refine TL.move hF rfl rfl ?_
      refine TL.indexAddr hF rfl rfl (hn.ad (i := k) (by omega)) (by omega) (by omega) rfl ?_
      refine TL.loadA hF (l[k]'(by omega)).cells rfl rfl (hn.ro.atA (i := k) (by omega)) rfl ?_
      refine TL.alloc hF rfl (fun b13 => ?_)
      refine TL.assign hF rfl rfl ?_
      refine TL.storeAI hF (l[k]'(by omega)).cells 0 rfl rfl rfl rfl (ncells1 _) (by simp [Value.cells, ncl]) ?_
      refine TL.nil ?_
      refine TQ.then_n ?_
      have hkl : k < l.length := by omega
      have hrow := hn.frow hkl
      have hfr := hok.fr k hkl
      have hfew := hok.few k hkl
      rw [← nd_eq hkl] at hrow hfr hfew
      refine T.cut (ι := Nat → Int) (fun _ => True) (fun _ => [(2, .int .i64 (now : Int)), (6, .slice none 0 0), (7, .slice (some ⟨b18, 0, none⟩) l.length l.length), (8, .slice (some ⟨b21, 0, none⟩) l.length l.length), (9, .int .i64 (rk l (k + 1) : Int)), (10, .slice oa ol oc), (11, .slice na (inW l all (now + 1)).length nc), (33, .slice a l.length c), (34, .int .i64 (l.length : Int)), (35, .int .i64 (k : Int)), (12, .int .i64 (k : Int)), (13, ptr b13)]) (fun g => [(b13, Obj.cells (l[k]'hkl).cells.toArray 55 (0, 0))] :: bseg b18 l.length (upd (fun t => if t < k then leadF l all now t else false) k (decide ((nd l k).op = 0) && decide (UP l all (now + 1) k ≠ UP l all now k))) :: iseg b21 l.length g :: ng :: og :: η) ?_ ?_
      · refine T.seq ?_
        refine T.region ?_
        refine TL.fieldAddr hF rfl rfl ?_
        refine TL.load hF rfl (by first | exact At.own' (i := 0) rfl rfl | exact At.own' (i := 1) rfl rfl | exact At.own' (i := 2) rfl rfl | exact At.own' (i := 3) rfl rfl | exact At.own' (i := 4) rfl rfl | exact At.own' (i := 5) rfl rfl | exact At.own' (i := 6) rfl rfl | exact At.own' (i := 7) rfl rfl | exact At.own' (i := 8) rfl rfl | exact At.own' (i := 9) rfl rfl | exact At.own' (i := 10) rfl rfl | exact At.own' (i := 11) rfl rfl | exact At.own' (i := 12) rfl rfl) rfl ?_
        refine TL.bin hF rfl rfl rfl rfl ?_
        refine TL.nil ?_
        refine TQ.then_n ?_
        first | refine T.cond_d rfl (fun ht42 => ?_) (fun ht42 => ?_) | refine T.cond _ rfl (fun ht42 => ?_) (fun ht42 => ?_)
        · refine T.seq ?_
          refine T.region ?_
          refine TL.move hF rfl rfl ?_
          refine TL.move hF rfl rfl ?_
          refine TL.fieldAddr hF rfl rfl ?_
          refine TL.load hF rfl (by first | exact At.own' (i := 0) rfl rfl | exact At.own' (i := 1) rfl rfl | exact At.own' (i := 2) rfl rfl | exact At.own' (i := 3) rfl rfl | exact At.own' (i := 4) rfl rfl | exact At.own' (i := 5) rfl rfl | exact At.own' (i := 6) rfl rfl | exact At.own' (i := 7) rfl rfl | exact At.own' (i := 8) rfl rfl | exact At.own' (i := 9) rfl rfl | exact At.own' (i := 10) rfl rfl | exact At.own' (i := 11) rfl rfl | exact At.own' (i := 12) rfl rfl) rfl ?_
          refine TL.indexAddr hF rfl rfl ⟨_, rfl, rfl⟩ (by omega) (by omega) rfl ?_
          refine TL.storeI hF 2 rfl rfl rfl rfl (by simp [intC_len]; omega) ?_
          refine TL.nil ?_
          refine TQ.then_n ?_
          have h0 : (nd l k).op = 0 := by rw [nd_eq hkl]; exact ht42
          refine T.cut (ι := Nat → Int) (fun g => g k = UP l all now k) (fun _ => [(2, .int .i64 (now : Int)), (6, .slice none 0 0), (7, .slice (some ⟨b18, 0, none⟩) l.length l.length), (8, .slice (some ⟨b21, 0, none⟩) l.length l.length), (9, .int .i64 (rk l k : Int)), (10, .slice oa ol oc), (11, .slice na (inW l all (now + 1)).length nc), (33, .slice a l.length c), (34, .int .i64 (l.length : Int)), (35, .int .i64 (k : Int)), (12, .int .i64 (k : Int)), (13, ptr b13)]) (fun g => [(b13, Obj.cells (l[k]'hkl).cells.toArray 55 (0, 0))] :: bseg b18 l.length (fun t => if t < k then leadF l all now t else false) :: iseg b21 l.length g :: ng :: og :: η) ?_ ?_
          · refine T.seq ?_
            refine T.region ?_
            refine TL.move hF rfl rfl ?_
            refine TL.bin hF rfl rfl rfl rfl ?_
            refine TL.nil ?_
            refine TQ.then_n ?_
            first | refine T.cond_d rfl (fun ht49 => ?_) (fun ht49 => ?_) | refine T.cond _ rfl (fun ht49 => ?_) (fun ht49 => ?_)
            · refine T.region ?_
              refine TL.move hF rfl rfl ?_
              refine TL.move hF rfl rfl ?_
              refine TL.move hF rfl rfl ?_
              refine TL.move hF rfl rfl ?_
              have hnow : 0 < now := by omega
              obtain ⟨hol2, hold2⟩ := hold hnow
              have hgo := inW_get all now hkl h0
              have hgl := (List.getElem?_eq_some_iff.1 hgo).1
              have h9 : ((rk l k : Nat) : Int) < (ol : Int) := by omega
              refine TL.indexAddr hF rfl rfl (hold2.adi (i := rk l k) (by rw [List.length_map]; omega)) (Int.natCast_nonneg _) h9 rfl ?_
              have h10 : ∀ η', (∀ z ∈ [og], z ∈ η') → At S w0 η' (sAt oa (rk l k)) (.int .i64 (UP l all now k)) := fun η' hs => (hold2.up hs).cell (rk l k) _ (by rw [List.getElem?_map, hgo]; rfl)
              refine TL.load hF rfl (v := .int .i64 (UP l all now k)) (by rw [show ((((rk l (k, gb).1 : Nat) : Int)).toNat * 1 : Nat) = rk l k by simp]; exact h10 _ (fun z hz => by rw [List.mem_singleton.1 hz]; simp)) rfl ?_
              refine TL.indexAddr hF rfl rfl ⟨_, rfl, rfl⟩ (by omega) (by omega) rfl ?_
              refine TL.storeI hF 2 rfl rfl rfl rfl (by simp [intC_len]; omega) ?_
              refine TL.nil ?_
              refine TQ.cut (upd (upd gb k (l[k]'hkl).n) k (UP l all now k)) (upd_same _ _ _) ⟨rfl, rfl, rfl, rfl, rfl, rfl, rfl, rfl, rfl, rfl, rfl, rfl, trivial⟩ ?_
              refine congrArg (fun z => [(b13, Obj.cells (l[k]'hkl).cells.toArray 55 (0, 0))] :: bseg b18 l.length (fun t => if t < k then leadF l all now t else false) :: z) ?_
              have e1 : [(b21, Obj.cells ((intC l.length gb).toArray.setIfInBounds k (.int .i64 (l[k]'hkl).n)) 3 (0, 0))] = iseg b21 l.length (upd gb k (l[k]'hkl).n) := iseg_upd rfl
              have e2 : [(b21, Obj.cells ((intC l.length (upd gb k (l[k]'hkl).n)).toArray.setIfInBounds k (.int .i64 (UP l all now k))) 3 (0, 0))] = iseg b21 l.length (upd (upd gb k (l[k]'hkl).n) k (UP l all now k)) := iseg_upd rfl
              have e3 : (intC l.length gb).toArray.setIfInBounds k (.int .i64 (l[k]'hkl).n) = (intC l.length (upd gb k (l[k]'hkl).n)).toArray := by simpa using e1
              rw [← e2, ← e3]; simp
            · refine T.skip ?_
              refine TQ.cut (upd gb k (l[k]'hkl).n) ?_ ⟨rfl, rfl, rfl, rfl, rfl, rfl, rfl, rfl, rfl, rfl, rfl, rfl, trivial⟩ ?_
              · have hnow : now = 0 := by omega
                rw [upd_same, hnow]; show _ = (if (nd l k).op = 0 then (nd l k).n else 0); rw [if_pos h0, nd_eq hkl]
              · refine congrArg (fun z => [(b13, Obj.cells (l[k]'hkl).cells.toArray 55 (0, 0))] :: bseg b18 l.length (fun t => if t < k then leadF l all now t else false) :: z) ?_
                have e1 : [(b21, Obj.cells ((intC l.length gb).toArray.setIfInBounds k (.int .i64 (l[k]'hkl).n)) 3 (0, 0))] = iseg b21 l.length (upd gb k (l[k]'hkl).n) := iseg_upd rfl
                rw [← e1]; simp; rfl
          · rintro g2 hg2
            have hgn := inW_get all (now + 1) hkl h0
            have hgl2 := (List.getElem?_eq_some_iff.1 hgn).1
            refine T.seq ?_
            refine T.draw ?_
            refine DR.stepV [_] rfl [(7, _, none)] rfl rfl ⟨⟨rfl, by kernel_rfl⟩, trivial⟩ (fun ext => TL.move hF rfl rfl TL.fin) ?_
            refine DR.stepV [_, _] rfl [(12, _, none)] rfl rfl ⟨⟨rfl, by kernel_rfl⟩, trivial⟩ (fun ext => TL.move hF rfl rfl TL.fin) ?_
            refine DR.stepV [_, _, _] rfl [(11, _, none)] rfl rfl ⟨⟨rfl, by kernel_rfl⟩, trivial⟩ (fun ext => TL.move hF rfl rfl TL.fin) ?_
            refine DR.stepV [_, _, _, _] rfl [(9, _, none)] rfl rfl ⟨⟨rfl, by kernel_rfl⟩, trivial⟩ (fun ext => TL.move hF rfl rfl TL.fin) ?_
            refine DR.stepV [_, _, _, _, _] rfl [(59, _, some 2), (60, _, some 3)] rfl rfl ⟨⟨rfl, rfl, rfl⟩, ⟨rfl, rfl, rfl⟩, trivial⟩ (fun ext => TL.indexAddr hF rfl rfl (hnext.adi (i := rk l k) (by rw [List.length_map]; omega)) (by omega) (by omega) rfl TL.fin) ?_
            refine DR.stepV [_, _, _, _, _, _] rfl [(61, _, some 4)] rfl rfl ⟨⟨rfl, rfl, rfl⟩, trivial⟩ (fun ext => TL.load hF rfl (v := .int .i64 (UP l all (now + 1) k)) (by rw [Int.toNat_natCast, Nat.mul_one]; exact (hnext.up (fun z hz => by rw [List.mem_singleton.1 hz]; simp)).cell _ _ (by rw [List.getElem?_map, hgn]; rfl)) rfl TL.fin) ?_
            refine DR.stepV [_, _, _, _, _, _, _] rfl [(8, _, none)] rfl rfl ⟨⟨rfl, by kernel_rfl⟩, trivial⟩ (fun ext => TL.move hF rfl rfl TL.fin) ?_
            refine DR.stepV [_, _, _, _, _, _, _, _] rfl [(12, _, none)] rfl rfl ⟨⟨rfl, by kernel_rfl⟩, trivial⟩ (fun ext => TL.move hF rfl rfl TL.fin) ?_
            refine DR.stepV [_, _, _, _, _, _, _, _, _] rfl [(63, _, some 6), (64, _, some 7)] rfl rfl ⟨⟨rfl, rfl, rfl⟩, ⟨rfl, rfl, rfl⟩, trivial⟩ (fun ext => TL.indexAddr hF rfl rfl ⟨_, rfl, rfl⟩ (by omega) (by omega) rfl TL.fin) ?_
            refine DR.stepV [_, _, _, _, _, _, _, _, _, _] rfl [(65, _, some 8)] rfl rfl ⟨⟨rfl, rfl, rfl⟩, trivial⟩ (fun ext => TL.load hF rfl (v := .int .i64 (UP l all now k)) (by rw [← hg2]; exact iseg_at (f := g2) (n := l.length) (b := b21) (j := k) (upc _ (upc _ List.mem_cons_self)) hkl) rfl TL.fin) ?_
            refine DR.stepV [_, _, _, _, _, _, _, _, _, _, _] rfl [(62, _, some 5), (66, _, some 9)] rfl rfl ⟨⟨rfl, rfl, rfl⟩, ⟨rfl, rfl, rfl⟩, trivial⟩ (fun ext => TL.bin hF rfl rfl rfl rfl TL.fin) ?_
            refine DR.done [(67, _), (66, _), (65, _), (64, _), (63, _), (62, _), (61, _), (60, _), (59, _), (58, _), (57, _)] [_, _] mixed (by kernel_rfl) (by kernel_rfl) (by kernel_rfl) rfl rfl ?_
            refine TL.indexAddr hF rfl rfl ⟨_, rfl, rfl⟩ (by omega) (by omega) rfl ?_
            refine TL.storeI hF 1 rfl rfl rfl rfl (by simp [rowC_len]; omega) ?_
            refine TL.nil ?_
            refine TQ.then_n ?_
            refine T.region ?_
            refine TL.move hF rfl rfl ?_
            refine TL.add hF rfl rfl (by omega) (by omega) rfl ?_
            refine TL.assign hF rfl rfl ?_
            refine TL.nil ?_
            refine TQ.cut g2 trivial ⟨rfl, rfl, rfl, rfl, congrArg (fun z => some (Value.int .i64 z)) (by rw [rk_succ hkl, if_pos ht42]; simp), rfl, rfl, rfl, rfl, rfl, rfl, rfl, trivial⟩ ?_
            refine congrArg (fun z => [(b13, Obj.cells (l[k]'hkl).cells.toArray 55 (0, 0))] :: z) (bseg_set (j := k) (by simp) (fun i _ => ?_))
            by_cases h : i = k
            · subst h; rw [upd_same, if_pos rfl, decide_eq_true h0, Bool.true_and]
            · rw [upd_ne _ _ h, if_neg h]
        · refine T.skip ?_
          refine TQ.cut gb trivial ⟨rfl, rfl, rfl, rfl, congrArg (fun z => some (Value.int .i64 z)) (by rw [rk_succ hkl, if_neg ht42]; simp), rfl, rfl, rfl, rfl, rfl, rfl, rfl, trivial⟩ ?_
          refine congrArg (fun z => [(b13, Obj.cells (l[k]'hkl).cells.toArray 55 (0, 0))] :: z) (bseg_congr (fun i _ => ?_))
          by_cases h : i = k
          · subst h; rw [upd_same, if_neg (Nat.lt_irrefl _), decide_eq_false (by rw [nd_eq hkl]; exact ht42), Bool.false_and]
          · rw [upd_ne _ _ h]
      · rintro g3 _
        refine T.seq ?_
        refine T.region ?_
        refine TL.fieldAddr hF rfl rfl ?_
        refine TL.load hF rfl (v := .slice (nd l k).fa (nd l k).fr.length (nd l k).fc) (by rw [nd_eq hkl]; exact At.own' (i := 0) rfl rfl) rfl ?_
        refine TL.len hF rfl rfl ?_
        refine TL.move hF rfl rfl ?_
        refine TL.nil ?_
        refine TQ.then_n ?_
        refine T.block ?_
        refine T.loop (ι := Nat) (fun j => j ≤ (nd l k).fr.length) (fun j => [(2, .int .i64 (now : Int)), (6, .slice none 0 0), (7, .slice (some ⟨b18, 0, none⟩) l.length l.length), (8, .slice (some ⟨b21, 0, none⟩) l.length l.length), (9, .int .i64 (rk l (k + 1) : Int)), (10, .slice oa ol oc), (11, .slice na (inW l all (now + 1)).length nc), (33, .slice a l.length c), (34, .int .i64 (l.length : Int)), (35, .int .i64 (k : Int)), (12, .int .i64 (k : Int)), (72, .slice (nd l k).fa (nd l k).fr.length (nd l k).fc), (73, .int .i64 ((nd l k).fr.length : Int)), (74, .int .i64 (j : Int))]) (fun j => [(b13, Obj.cells (l[k]'hkl).cells.toArray 55 (0, 0))] :: bseg b18 l.length (upd (fun t => if t < k then leadF l all now t else false) k ((decide ((nd l k).op = 0) && decide (UP l all (now + 1) k ≠ UP l all now k)) || ((nd l k).fr.take j).any fun f => leadF l all now f.toNat)) :: iseg b21 l.length g3 :: ng :: og :: η) (fun j => (nd l k).fr.length - j) 0 (Nat.zero_le _) ⟨rfl, rfl, rfl, rfl, rfl, rfl, rfl, rfl, rfl, rfl, rfl, rfl, rfl, rfl, trivial⟩ (by simp) ?_
        intro j hj
        refine T.seq ?_
        refine T.region ?_
        refine TL.bin hF rfl rfl rfl rfl ?_
        refine TL.nil ?_
        refine TQ.then_n ?_
        refine T.seq ?_
        first | refine T.cond_d rfl (fun ht75 => ?_) (fun ht75 => ?_) | refine T.cond _ rfl (fun ht75 => ?_) (fun ht75 => ?_)
        · refine T.skip ?_
          refine TQ.then_n ?_
          refine T.seq ?_
          refine T.block ?_
          refine T.seq ?_
          refine T.region ?_
          refine TL.indexAddr hF rfl rfl (hrow.adi (i := j) (by rw [List.length_map]; omega)) (by omega) (by omega) rfl ?_
          refine TL.load hF rfl (hrow.ro.int (i := j) (by omega)) rfl ?_
          refine TL.assign hF rfl rfl ?_
          refine TL.nil ?_
          refine TQ.then_n ?_
          refine T.region ?_
          refine TL.move hF rfl rfl ?_
          refine TL.move hF rfl rfl ?_
          refine TL.move hF rfl rfl ?_
          refine TL.move hF rfl rfl ?_
          have hjl : j < (nd l k).fr.length := by omega
          have hf := hfr ((nd l k).fr[j]'hjl) (List.getElem_mem _)
          refine TL.indexAddr hF rfl rfl ⟨_, rfl, rfl⟩ (by omega) (by omega) rfl ?_
          refine TL.load hF rfl (v := .bool ((decide ((nd l k).op = 0) && decide (UP l all (now + 1) k ≠ UP l all now k)) || ((nd l k).fr.take j).any fun f => leadF l all now f.toNat)) (by have h := bseg_at (S := S) (w0 := w0) (f := upd (fun t => if t < k then leadF l all now t else false) k ((decide ((nd l k).op = 0) && decide (UP l all (now + 1) k ≠ UP l all now k)) || ((nd l k).fr.take j).any fun f => leadF l all now f.toNat)) (n := l.length) (b := b18) (j := k) (η := [(b13, Obj.cells (l[k]'hkl).cells.toArray 55 (0, 0))] :: bseg b18 l.length (upd (fun t => if t < k then leadF l all now t else false) k ((decide ((nd l k).op = 0) && decide (UP l all (now + 1) k ≠ UP l all now k)) || ((nd l k).fr.take j).any fun f => leadF l all now f.toNat)) :: iseg b21 l.length g3 :: ng :: og :: η) (upc _ List.mem_cons_self) hkl; rw [upd_same] at h; exact h) rfl ?_
          refine TL.move hF rfl rfl ?_
          refine TL.gb (t := 84) rfl (fun g20_84 => ?_) (fun g20_84 => ?_)
          · refine TL.off hF rfl rfl rfl g20_84 rfl ?_
            refine TL.off hF rfl rfl rfl g20_84 rfl ?_
            refine TL.off hF rfl rfl rfl g20_84 rfl ?_
            refine TL.off hF rfl rfl rfl g20_84 rfl ?_
            refine TL.pickT hF rfl g20_84 rfl rfl ?_
            refine TL.indexAddr hF rfl rfl ⟨_, rfl, rfl⟩ (by omega) (by omega) rfl ?_
            refine TL.storeI hF 1 rfl rfl rfl rfl (by simp [rowC_len]; omega) ?_
            refine TL.nil ?_
            refine TQ.block_n ?_
            refine TQ.then_n ?_
            refine T.region ?_
            refine TL.add hF rfl rfl (by omega) (by omega) rfl ?_
            refine TL.move hF rfl rfl ?_
            refine TL.nil ?_
            refine TQ.round (j + 1) (by omega) (by omega) ⟨rfl, rfl, rfl, rfl, rfl, rfl, rfl, rfl, rfl, rfl, rfl, rfl, rfl, rfl, trivial⟩ (congrArg (fun z => [(b13, Obj.cells (l[k]'hkl).cells.toArray 55 (0, 0))] :: z) (bseg_set (j := k) (by simp) (fun i _ => ?_)))
            by_cases h : i = k
            · subst h
              rw [upd_same, if_pos rfl, List.take_succ_eq_append_getElem hjl, List.any_append, ← Bool.or_assoc, g20_84]; rfl
            · rw [upd_ne _ _ h, if_neg h, upd_ne _ _ h]
          · refine TL.on rfl rfl rfl g20_84 ?_
            refine TL.move hF rfl rfl ?_
            refine TL.on rfl rfl rfl g20_84 ?_
            refine TL.move hF rfl rfl ?_
            refine TL.on rfl rfl rfl g20_84 ?_
            refine TL.indexAddr hF rfl rfl ⟨_, rfl, rfl⟩ (by omega) (by omega) rfl ?_
            refine TL.on rfl rfl rfl g20_84 ?_
            refine TL.load hF rfl (v := .bool (leadF l all now ((nd l k).fr[j]'hjl).toNat)) (by have h := bseg_at (S := S) (w0 := w0) (f := upd (fun t => if t < k then leadF l all now t else false) k ((decide ((nd l k).op = 0) && decide (UP l all (now + 1) k ≠ UP l all now k)) || ((nd l k).fr.take j).any fun f => leadF l all now f.toNat)) (n := l.length) (b := b18) (j := ((nd l k).fr[j]'hjl).toNat) (η := [(b13, Obj.cells (l[k]'hkl).cells.toArray 55 (0, 0))] :: bseg b18 l.length (upd (fun t => if t < k then leadF l all now t else false) k ((decide ((nd l k).op = 0) && decide (UP l all (now + 1) k ≠ UP l all now k)) || ((nd l k).fr.take j).any fun f => leadF l all now f.toNat)) :: iseg b21 l.length g3 :: ng :: og :: η) (upc _ List.mem_cons_self) (by omega); rw [upd_ne _ _ (by omega), if_pos (by omega)] at h; exact h) rfl ?_
            refine TL.pickF hF rfl g20_84 rfl rfl ?_
            refine TL.indexAddr hF rfl rfl ⟨_, rfl, rfl⟩ (by omega) (by omega) rfl ?_
            refine TL.storeI hF 1 rfl rfl rfl rfl (by simp [rowC_len]; omega) ?_
            refine TL.nil ?_
            refine TQ.block_n ?_
            refine TQ.then_n ?_
            refine T.region ?_
            refine TL.add hF rfl rfl (by omega) (by omega) rfl ?_
            refine TL.move hF rfl rfl ?_
            refine TL.nil ?_
            refine TQ.round (j + 1) (by omega) (by omega) ⟨rfl, rfl, rfl, rfl, rfl, rfl, rfl, rfl, rfl, rfl, rfl, rfl, rfl, rfl, trivial⟩ (congrArg (fun z => [(b13, Obj.cells (l[k]'hkl).cells.toArray 55 (0, 0))] :: z) (bseg_set (j := k) (by simp) (fun i _ => ?_)))
            by_cases h : i = k
            · subst h
              rw [upd_same, if_pos rfl, List.take_succ_eq_append_getElem hjl, List.any_append, ← Bool.or_assoc, g20_84]; simp
            · rw [upd_ne _ _ h, if_neg h, upd_ne _ _ h]
        · refine T.exit ?_
          refine TQ.then_x ?_
          refine TQ.then_x ?_
          refine TQ.block_x ?_
          refine TQ.block_n ?_
          refine TQ.then_n ?_
          refine T.region ?_
          refine TL.add hF rfl rfl (by omega) (by omega) rfl ?_
          refine TL.move hF rfl rfl ?_
          refine TL.nil ?_
          refine TQ.pop ?_
          refine TQ.round (k + 1, g3) (by dsimp only; omega) (by dsimp only; omega) ⟨rfl, rfl, rfl, rfl, rfl, rfl, rfl, rfl, rfl, rfl, trivial⟩ (bseg_congr (fun i hi => ?_))
          rw [List.take_of_length_le (by omega), ← lead_eq hok hkl]
          by_cases h : i = k
          · subst h; rw [upd_same, if_pos (by omega)]
          · rw [upd_ne _ _ h]
            by_cases h2 : i < k
            · rw [if_pos h2, if_pos (by omega)]
            · rw [if_neg h2, if_neg (by omega)]
    · refine T.exit ?_
      refine TQ.then_x ?_
      refine TQ.then_x ?_
      refine TQ.block_x ?_
      refine TQ.then_n ?_
      refine T.seq ?_
      refine T.region ?_
      refine TL.move hF rfl rfl ?_
      refine TL.assign hF rfl rfl ?_
      refine TL.nil ?_
      refine TQ.then_n ?_
      refine T.ret ?_
      have hkn : k = l.length := by omega
      subst hkn
      refine TQ.hsub (bseg b18 l.length (fun t => if t < l.length then leadF l all now t else false) :: η) (List.Sublist.cons_cons _ (List.Sublist.cons _ (List.Sublist.cons _ (List.sublist_cons_self _ _)))) ?_
      refine TQ.rets [6] _ rfl rfl rfl ?_
      exact ⟨b18, rfl, bseg_congr (fun i hi => by rw [if_pos hi])⟩
end Go.Proofs.YtefkmiomldhmjaaDoor
