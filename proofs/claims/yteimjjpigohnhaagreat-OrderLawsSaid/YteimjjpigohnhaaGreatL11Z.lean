/- The laws of frontiers: for every input. No condition. -/
import Derived.Test.YteimjjpigohnhaaGreatRf
import Derived.Test.YteimjjpigohnhaaGreatRows
/- Times that fit: what functions make of them. -/
namespace Go.Proofs.YteimjjpigohnhaaGreat
open Go.Sl
/-- A time of so many numbers. -/
def Tw (w : Nat) (t : Tm) : Prop := t.length = w ∧ isT t = true
def Tws (w : Nat) (l : List Tm) : Prop := ∀ x ∈ l, Tw w x
theorem Tws.wid {w : Nat} {l : List Tm} (h : Tws w l) : Wid w l := fun x hx => (h x hx).1
theorem isT_iff {t : Tm} : isT t = true ↔ (1 ≤ t.length ∧ t.length ≤ 4) ∧ ∀ n ∈ t, 0 ≤ n ∧ n ≤ 1073741824 := by simp [isT]
theorem tw_tmI {w : Nat} (h1 : 1 ≤ w) (h4 : w ≤ 4) (n : Int) : Tw w (tmI w n) := ⟨tmI_len w n, isT_iff.2 ⟨by rw [tmI_len]; exact ⟨h1, h4⟩, fun x hx => by have := tmI_range w n x hx; omega⟩⟩
theorem tws_tms {w : Nat} (h1 : 1 ≤ w) (h4 : w ≤ 4) (l : List Int) (k : Nat) : Tws w (tmsI l w k) := fun x hx => by
  obtain ⟨n, _, rfl⟩ := List.mem_map.1 hx
  exact tw_tmI h1 h4 n
theorem tmsI_len (l : List Int) (w k : Nat) : (tmsI l w k).length ≤ k := by unfold tmsI; rw [List.length_map, List.length_take]; omega
theorem Tws.nil (w : Nat) : Tws w [] := fun _ h => by simp at h
theorem Tws.one {w : Nat} {t : Tm} (h : Tw w t) : Tws w [t] := fun x hx => by rw [List.mem_singleton.1 hx]; exact h
theorem Tws.app {w : Nat} {l m : List Tm} (h : Tws w l) (h2 : Tws w m) : Tws w (l ++ m) := fun x hx => (List.mem_append.1 hx).elim (h x) (h2 x)
theorem Tws.sub {w : Nat} {l m : List Tm} (h : Tws w l) (hm : ∀ x ∈ m, x ∈ l) : Tws w m := fun x hx => h x (hm x hx)
theorem Tws.firsts {w : Nat} {l : List Tm} (h : Tws w l) : Tws w (firstsT l) := h.sub fun _ hx => (mem_outT.1 hx).1
theorem Tws.lasts {w : Nat} {l : List Tm} (h : Tws w l) : Tws w (lastsT l) := h.sub fun _ hx => (mem_outT.1 hx).1
theorem join_range : ∀ {a b : Tm}, (∀ n ∈ a, 0 ≤ n ∧ n ≤ 1073741824) → (∀ n ∈ b, 0 ≤ n ∧ n ≤ 1073741824) → ∀ n ∈ tjoin a b, 0 ≤ n ∧ n ≤ 1073741824
  | [], _, _, _, n, h => by simp [tjoin] at h
  | _ :: _, [], _, _, n, h => by simp [tjoin] at h
  | x :: a, y :: b, ha, hb, n, h => by
    have hx := ha x List.mem_cons_self
    have hy := hb y List.mem_cons_self
    simp only [tjoin, List.zipWith_cons_cons, List.mem_cons] at h
    rcases h with rfl | h
    · omega
    · exact join_range (fun n hn => ha n (List.mem_cons_of_mem _ hn)) (fun n hn => hb n (List.mem_cons_of_mem _ hn)) n h
theorem meet_range : ∀ {a b : Tm}, (∀ n ∈ a, 0 ≤ n ∧ n ≤ 1073741824) → (∀ n ∈ b, 0 ≤ n ∧ n ≤ 1073741824) → ∀ n ∈ tmeet a b, 0 ≤ n ∧ n ≤ 1073741824
  | [], _, _, _, n, h => by simp [tmeet] at h
  | _ :: _, [], _, _, n, h => by simp [tmeet] at h
  | x :: a, y :: b, ha, hb, n, h => by
    have hx := ha x List.mem_cons_self
    have hy := hb y List.mem_cons_self
    simp only [tmeet, List.zipWith_cons_cons, List.mem_cons] at h
    rcases h with rfl | h
    · omega
    · exact meet_range (fun n hn => ha n (List.mem_cons_of_mem _ hn)) (fun n hn => hb n (List.mem_cons_of_mem _ hn)) n h
theorem Tw.join {w : Nat} {a b : Tm} (ha : Tw w a) (hb : Tw w b) : Tw w (tjoin a b) := by
  have h1 := isT_iff.1 ha.2; have h2 := isT_iff.1 hb.2
  have e : (tjoin a b).length = w := by rw [tjoin_len (ha.1.trans hb.1.symm), ha.1]
  exact ⟨e, isT_iff.2 ⟨by rw [e, ← ha.1]; exact h1.1, join_range h1.2 h2.2⟩⟩
theorem Tw.meet {w : Nat} {a b : Tm} (ha : Tw w a) (hb : Tw w b) : Tw w (tmeet a b) := by
  have h1 := isT_iff.1 ha.2; have h2 := isT_iff.1 hb.2
  have e : (tmeet a b).length = w := by rw [tmeet_len (ha.1.trans hb.1.symm), ha.1]
  exact ⟨e, isT_iff.2 ⟨by rw [e, ← ha.1]; exact h1.1, meet_range h1.2 h2.2⟩⟩
theorem Tws.joins {w : Nat} {f g : List Tm} (hf : Tws w f) (hg : Tws w g) : Tws w (joinsT f g) := fun x hx => by
  obtain ⟨y, hy, hx2⟩ := List.mem_flatMap.1 hx
  obtain ⟨z, hz, rfl⟩ := List.mem_map.1 hx2
  exact (hf y hy).join (hg z hz)
theorem joinsT_len (f g : List Tm) : (joinsT f g).length = f.length * g.length := by unfold joinsT; exact flat_len g.length _ (fun x => by simp) f
theorem Tws.fit {w : Nat} {l : List Tm} (h : Tws w l) : fitT l = true := by
  cases l with
  | nil => rfl
  | cons t r =>
    unfold fitT fitW
    rw [List.all_eq_true]
    intro x hx
    have h1 := h x hx; have h2 := h t List.mem_cons_self
    rw [Bool.and_eq_true]
    exact ⟨h1.2, decide_eq_true (by rw [h1.1]; exact h2.1.symm)⟩
theorem Tws.times {w : Nat} {l : List Tm} (h : Tws w l) (hl : l.length ≤ 200) : timesE l = 0 := by unfold timesE; rw [if_neg (by omega), if_pos h.fit]
theorem Tws.front {w : Nat} {f g m : List Tm} (hf : Tws w f) (hg : Tws w g) (hm : Tws w m) (h1 : f.length ≤ 200) (h2 : g.length ≤ 200) (h3 : m.length ≤ 200) (e1 : f = firstsT f) (e2 : g = firstsT g) : frontE f g m = 0 := by
  unfold frontE
  rw [if_neg (by omega), if_pos ((hf.app hg).app hm).fit, if_pos ⟨e1, e2⟩]
theorem firsts_self {w : Nat} {l : List Tm} (h : Wid w l) : firstsT l = firstsT (firstsT l) := (fr_firsts h).firsts.symm
theorem firsts_nil : ([] : List Tm) = firstsT [] := rfl
theorem lessB_tw {w : Nat} {a b : Tm} (ha : Tw w a) (hb : Tw w b) : lessB a b = tle a b := by
  have h : fitT [a, b] = true := Tws.fit (w := w) fun x hx => by
    simp only [List.mem_cons, List.not_mem_nil, or_false] at hx
    rcases hx with rfl | rfl
    · exact ha
    · exact hb
  unfold lessB lessS
  rw [if_pos h]; simp
theorem meetS_tw {w : Nat} {a b : Tm} (ha : Tw w a) (hb : Tw w b) : meetS a b = (tmeet a b, 0) := by
  have h : fitT [a, b] = true := Tws.fit (w := w) fun x hx => by
    simp only [List.mem_cons, List.not_mem_nil, or_false] at hx
    rcases hx with rfl | rfl
    · exact ha
    · exact hb
  unfold meetS; rw [if_pos h]
theorem joinS_tw {w : Nat} {a b : Tm} (ha : Tw w a) (hb : Tw w b) : joinS a b = (tjoin a b, 0) := by
  have h : fitT [a, b] = true := Tws.fit (w := w) fun x hx => by
    simp only [List.mem_cons, List.not_mem_nil, or_false] at hx
    rcases hx with rfl | rfl
    · exact ha
    · exact hb
  unfold joinS; rw [if_pos h]
theorem firstsS_tw {w : Nat} {l : List Tm} (h : Tws w l) (hl : l.length ≤ 200) : firstsS l = (firstsT l, 0) := by unfold firstsS; rw [if_pos (h.times hl)]
theorem lastsS_tw {w : Nat} {l : List Tm} (h : Tws w l) (hl : l.length ≤ 200) : lastsS l = (lastsT l, 0) := by unfold lastsS; rw [if_pos (h.times hl)]
theorem beyondS_tw {w : Nat} {f : List Tm} {t : Tm} (hf : Tws w f) (ht : Tw w t) (hl : f.length ≤ 200) (e : f = firstsT f) : beyondS f t = (pastT f t, 0) := by unfold beyondS; rw [if_pos (hf.front (Tws.nil w) (Tws.one ht) hl (by simp) (by simp) e firsts_nil)]
theorem seenS_tw {w : Nat} {f : List Tm} {t : Tm} (hf : Tws w f) (ht : Tw w t) (hl : f.length ≤ 200) (e : f = firstsT f) (hn : f ≠ []) : seenS f t = (standsT f t, 0) := by unfold seenS; rw [if_pos (hf.front (Tws.nil w) (Tws.one ht) hl (by simp) (by simp) e firsts_nil), if_neg hn]
theorem aheadS_tw {w : Nat} {f g : List Tm} (hf : Tws w f) (hg : Tws w g) (hl : f.length ≤ 200) (hl2 : g.length ≤ 200) (e : f = firstsT f) (e2 : g = firstsT g) : aheadS f g = (aheadT f g, 0) := by unfold aheadS; rw [if_pos (hf.front hg (Tws.nil w) hl hl2 (by simp) e e2)]
theorem eitherS_tw {w : Nat} {f g : List Tm} (hf : Tws w f) (hg : Tws w g) (hl : f.length ≤ 200) (hl2 : g.length ≤ 200) (e : f = firstsT f) (e2 : g = firstsT g) : eitherS f g = (firstsT (f ++ g), 0) := by unfold eitherS; rw [if_pos (hf.front hg (Tws.nil w) hl hl2 (by simp) e e2)]
theorem bothS_tw {w : Nat} {f g : List Tm} (hf : Tws w f) (hg : Tws w g) (hl : f.length ≤ 200) (hl2 : g.length ≤ 200) (e : f = firstsT f) (e2 : g = firstsT g) : bothS f g = (firstsT (joinsT f g), 0) := by unfold bothS; rw [if_pos (hf.front hg (Tws.nil w) hl hl2 (by simp) e e2)]
theorem past_joins {w : Nat} {f g : List Tm} (hf : Wid w f) (hg : Wid w g) {t : Tm} (ht : t.length = w) : pastT (joinsT f g) t = (pastT f t && pastT g t) := by
  rw [Bool.eq_iff_iff, Bool.and_eq_true, pastT_iff, pastT_iff, pastT_iff]
  constructor
  · rintro ⟨o, ho, hl⟩
    obtain ⟨y, hy, hx2⟩ := List.mem_flatMap.1 ho
    obtain ⟨z, hz, rfl⟩ := List.mem_map.1 hx2
    have h := (join_le ((hf y hy).trans (hg z hz).symm) ((hg z hz).trans ht.symm)).1 hl
    exact ⟨⟨y, hy, h.1⟩, ⟨z, hz, h.2⟩⟩
  · rintro ⟨⟨y, hy, h1⟩, ⟨z, hz, h2⟩⟩
    exact ⟨tjoin y z, List.mem_flatMap.2 ⟨y, hy, List.mem_map.2 ⟨z, hz, rfl⟩⟩, (join_le ((hf y hy).trans (hg z hz).symm) ((hg z hz).trans ht.symm)).2 ⟨h1, h2⟩⟩
theorem past_app (f g : List Tm) (t : Tm) : pastT (f ++ g) t = (pastT f t || pastT g t) := by unfold pastT; rw [List.any_append]
theorem past_self {f : List Tm} {t : Tm} (h : t ∈ f) : pastT f t = true := pastT_iff.2 ⟨t, h, tle_refl t⟩
theorem wid_joins {w : Nat} {f g : List Tm} (hf : Wid w f) (hg : Wid w g) : Wid w (joinsT f g) := fun x hx => by
  obtain ⟨y, hy, hx2⟩ := List.mem_flatMap.1 hx
  obtain ⟨z, hz, rfl⟩ := List.mem_map.1 hx2
  rw [tjoin_len ((hf y hy).trans (hg z hz).symm), hf y hy]
/-- The laws of two frontiers. -/
theorem absorb {w : Nat} {f g : List Tm} (hf : Fr w f) (hg : Fr w g) : firstsT (joinsT f (firstsT (f ++ g))) = f := by
  have hw : Wid w (f ++ g) := fun x hx => (List.mem_append.1 hx).elim (hf.wid x) (hg.wid x)
  have he := fr_firsts hw
  have hj := wid_joins hf.wid he.wid
  refine (fr_firsts hj).ext hf (fun t ht => ?_) (fun t ht => ?_)
  · have h1 := past_self ht
    have hl := (fr_firsts hj).wid t ht
    rw [past_firsts hj hl, past_joins hf.wid he.wid hl, Bool.and_eq_true] at h1
    exact h1.1
  · have hl := hf.wid t ht
    rw [past_firsts hj hl, past_joins hf.wid he.wid hl, past_firsts hw hl, past_app, past_self ht]; rfl
theorem ahead_either {w : Nat} {f g : List Tm} (hf : Fr w f) (hg : Fr w g) : aheadT f g = decide (firstsT (f ++ g) = f) := by
  have hw : Wid w (f ++ g) := fun x hx => (List.mem_append.1 hx).elim (hf.wid x) (hg.wid x)
  rw [Bool.eq_iff_iff, decide_eq_true_eq]
  unfold aheadT
  rw [List.all_eq_true]
  constructor
  · intro h
    refine (fr_firsts hw).ext hf (fun t ht => ?_) (fun t ht => ?_)
    · rcases List.mem_append.1 (mem_outT.1 ht).1 with h1 | h1
      · exact past_self h1
      · exact h t h1
    · rw [past_firsts hw (hf.wid t ht), past_app, past_self ht]; rfl
  · intro e t ht
    have hl := hg.wid t ht
    have h1 : pastT (firstsT (f ++ g)) t = true := by rw [past_firsts hw hl, past_app, past_self ht, Bool.or_true]
    rw [e] at h1; exact h1
theorem ahead_both {w : Nat} {f g : List Tm} (hf : Fr w f) (hg : Fr w g) : aheadT f g = decide (firstsT (joinsT f g) = g) := by
  have hj := wid_joins hf.wid hg.wid
  rw [Bool.eq_iff_iff, decide_eq_true_eq]
  unfold aheadT
  rw [List.all_eq_true]
  constructor
  · intro h
    refine (fr_firsts hj).ext hg (fun t ht => ?_) (fun t ht => ?_)
    · have h1 := past_self ht
      have hl := (fr_firsts hj).wid t ht
      rw [past_firsts hj hl, past_joins hf.wid hg.wid hl, Bool.and_eq_true] at h1
      exact h1.2
    · have hl := hg.wid t ht
      rw [past_firsts hj hl, past_joins hf.wid hg.wid hl, past_self ht, h t ht]; rfl
  · intro e t ht
    have hl := hg.wid t ht
    have h1 : pastT (firstsT (joinsT f g)) t = true := by rw [e]; exact past_self ht
    rw [past_firsts hj hl, past_joins hf.wid hg.wid hl, Bool.and_eq_true] at h1
    exact h1.1
/-! Where one stands. -/
theorem le_stands {w : Nat} {f : List Tm} (hn : f ≠ []) (hf : Wid w f) {t c : Tm} (ht : t.length = w) (hc : c.length = w) : tle c (standsT f t) = true ↔ ∀ o ∈ f, tle c (tjoin o t) = true := by
  cases f with
  | nil => exact absurd rfl hn
  | cons o r =>
    have ho := hf o List.mem_cons_self
    have hr : Wid w r := fun y hy => hf y (List.mem_cons_of_mem _ hy)
    have e : standsT (o :: r) t = (r.map fun x => tjoin x t).foldl tmeet (tjoin o t) := by
      show r.foldl (fun s o => tmeet s (tjoin o t)) (tjoin o t) = _
      rw [List.foldl_map]
    rw [e, le_fold hc _ _ (fun y hy => by obtain ⟨z, hz, rfl⟩ := List.mem_map.1 hy; rw [tjoin_len ((hr z hz).trans ht.symm), hr z hz]) (by rw [tjoin_len (ho.trans ht.symm), ho])]
    simp
theorem stands_le {w : Nat} {f : List Tm} (hn : f ≠ []) (hf : Wid w f) {t c : Tm} (ht : t.length = w) (hc : c.length = w) : tle (standsT f t) c = true ↔ tle (meetT f) c = true ∧ tle t c = true := by
  rw [stands_eq hn, join_le ((meetT_len hn hf).trans ht.symm) (ht.trans hc.symm)]
theorem meetT_le {w : Nat} {f : List Tm} (hn : f ≠ []) (hf : Wid w f) {o : Tm} (ho : o ∈ f) : tle (meetT f) o = true := (le_meetT hn hf (meetT_len hn hf)).1 (tle_refl _) o ho
end Go.Proofs.YteimjjpigohnhaaGreat
/- Lists of times that the laws make and compare. -/
namespace Go.Proofs.YteimjjpigohnhaaGreat
open Go.Sl
variable {S : Nat → Prop} {w0 : World} {η : Heap}
theorem times_ll {a : Option Addr} {l : List Int} {c wide most : Nat} (hx : Row S w0 [] a (ints l)) (hl : l.length < 2 ^ 63) (hw : ∀ x ∈ l, W64 x) (hwd : wide < 1000) (hm : most < 1000) : Rt Tryz.prog 58 [.slice a l.length c, .int .i64 (wide : Int), .int .i64 (most : Int)].toArray S w0 η (fun v η' => ∃ a' cap ps segs, v = .slice a' ps.length cap ∧ tx ps = tmsI l wide most ∧ LL S w0 segs a' ps ∧ η' = segs ++ η) := by
  refine (times_fn (c := c) hx hl hw hwd hm).mono ?_
  rintro v η' ⟨a', cap, outs, og, rfl, hol, hto, rfl⟩
  exact ⟨a', cap, outs.map (·.1), og :: outs.reverse.map (·.2), by rw [List.length_map], by rw [← hto]; simp [tx, List.map_map, Function.comp_def], hol.ll List.mem_cons_self (fun t ht => List.mem_cons_of_mem _ (List.mem_map_of_mem (List.mem_reverse.2 ht))), rfl⟩
theorem among_true {a b : Option Addr} {ps qs : List HL} {c d : Nat} (hx : LL S w0 η a ps) (hy : LL S w0 η b qs) (hl : ps.length < 2 ^ 63) (hl2 : qs.length < 2 ^ 63) (hlx : ∀ p ∈ ps, p.2.1.length < 2 ^ 63) (hs : ∀ x ∈ tx ps, x ∈ tx qs) : Rt Tryz.prog 51 [.slice a ps.length c, .slice b qs.length d].toArray S w0 η (fun v η' => v = .bool true ∧ η' = η) := by
  have h := among_fn (c := c) (d := d) hx hy hl hl2 hlx
  have e : ((tx ps).all fun x => (tx qs).any fun y => decide (x = y)) = true := by
    rw [List.all_eq_true]
    intro x hx
    rw [List.any_eq_true]
    exact ⟨x, hs x hx, decide_eq_true rfl⟩
  rw [e] at h; exact h
theorem apart_true {a : Option Addr} {ps : List HL} {c w : Nat} (hx : LL S w0 η a ps) (hl : ps.length < 65536) (hw : ∀ p ∈ ps, p.2.1.length = w) (hw4 : w ≤ 4) (he : tx ps = firstsT (tx ps)) : Rt Tryz.prog 52 [.slice a ps.length c].toArray S w0 η (fun v η' => v = .bool true ∧ ∃ segs, η' = segs ++ η) := by
  have h := apart_fn (c := c) hx hl hw hw4
  rw [decide_eq_true he] at h; exact h
theorem tx_length {ps : List HL} {L : List Tm} (h : tx ps = L) : ps.length = L.length := by rw [← h, tx_len]
theorem tx_wid {ps : List HL} {L : List Tm} {w : Nat} (h : tx ps = L) (hw : Wid w L) : ∀ p ∈ ps, p.2.1.length = w := wid_tx (h ▸ hw)
theorem Tws.good {w : Nat} {L : List Tm} (h : Tws w L) (hw4 : w ≤ 4) (hl : L.length ≤ 200) : GoodL L := ⟨by omega, fun x hx => by rw [(h x hx).1]; exact hw4⟩
theorem wide_nat (z : Int) : ∃ w : Nat, 1 + turnI z 4 = (w : Int) ∧ 1 ≤ w ∧ w ≤ 4 := by
  have h := turnI_range z (m := 4) (by decide)
  exact ⟨(1 + turnI z 4).toNat, by omega, by omega, by omega⟩
end Go.Proofs.YteimjjpigohnhaaGreat
/- The laws of frontiers that numbers make. -/
namespace Go.Proofs.YteimjjpigohnhaaGreat
open Go.Sl
variable {S : Nat → Prop} {w0 : World} {η : Heap}
set_option maxRecDepth 8000
theorem wide_true {a : Option Addr} {ps : List HL} {c n : Nat} {L : List Tm} (hx : LL S w0 η a ps) (hl : ps.length < 2 ^ 63) (ht : tx ps = L) (hw : Wid n L) : Rt Tryz.prog 59 [.slice a ps.length c, .int .i64 (n : Int)].toArray S w0 η (fun v η' => v = .bool true ∧ η' = η) := by
  have h := wide_fn (c := c) (n := n) hx hl
  rw [List.all_eq_true.2 (fun x hx => decide_eq_true (hw x (ht ▸ hx)))] at h
  exact h
set_option maxHeartbeats 2000000 in
theorem OrderLaws_fn {a b e : Option Addr} {xs ys ks : List Int} {c d g : Nat} {width : Int} (hx : Row S w0 [] a (ints xs)) (hy : Row S w0 [] b (ints ys)) (hk : Row S w0 [] e (ints ks)) (hl : xs.length < 2 ^ 63) (hl2 : ys.length < 2 ^ 63) (_hl3 : ks.length < 2 ^ 63) (hxw : Wd xs) (hyw : Wd ys) (hkw : Wd ks) (_ : W64 width) :
    Rt Tryz.prog 11 [.slice a xs.length c, .slice b ys.length d, .int .i64 width, .slice e ks.length g].toArray S w0 [] (fun v _ => v = .bool true) := by
  have hF := open_wide
  refine Rt.of (fn := Tryz.f11) Tryz.func11 rfl rfl ?_
  refine T.seq ?_
  refine T.region ?_
  refine TL.assign hF rfl rfl ?_
  refine TL.nil ?_
  refine TQ.then_n ?_
  refine T.seq ?_
  refine T.region ?_
  refine TL.move hF rfl rfl ?_
  refine TL.callV hF (Turn_fn width (m := 4) (by decide)) rfl rfl ?_
  have hb := Back.refl S w0
  obtain ⟨w, hwe, hw1, hw4⟩ := wide_nat width
  refine TL.addK hF rfl rfl (r := (w : Int)) (by rw [hwe]; exact wrap_i64 (by omega) (by omega)) rfl ?_
  refine TL.assign hF rfl rfl ?_
  refine TL.nil ?_
  refine TQ.then_n ?_
  refine T.seq ?_
  refine T.region ?_
  refine TL.move hF rfl rfl ?_
  refine TL.move hF rfl rfl ?_
  refine TL.call hF (times_ll (most := 12) hx hl hxw (by omega) (by omega)) rfl rfl ?_
  rintro _ _ ⟨aa10, cc10, q10, segs, rfl, tt10, hh10, rfl⟩
  refine TL.freeze (segs) rfl (fun S1 w1 hz1 => ?_)
  replace hb := hb.frz hz1
  replace hx := hx.old hz1
  replace hy := hy.old hz1
  replace hk := hk.old hz1
  replace hh10 := hh10.frz hz1
  have hq10 := tx_length tt10
  have hT10 : Tws w (tmsI xs w 12) := tws_tms hw1 hw4 xs 12
  have hTl10 : (tmsI xs w 12).length ≤ 12 := tmsI_len xs w 12
  refine TL.call hF (Firsts_prog hh10 (by omega) (fun p hp => by have := tx_wid tt10 hT10.wid p hp; omega)) rfl rfl ?_
  rintro _ _ h
  obtain ⟨a10, c10, p10, segs, rfl, t10, h10, rfl⟩ := h.lit (show firstsS (tx q10) = (firstsT (tmsI xs w 12), 0) by rw [tt10]; exact firstsS_tw hT10 (by omega))
  refine TL.freeze (segs) rfl (fun S2 w2 hz2 => ?_)
  replace hb := hb.frz hz2
  replace hx := hx.old hz2
  replace hy := hy.old hz2
  replace hk := hk.old hz2
  replace hh10 := hh10.old hz2
  replace h10 := h10.frz hz2
  have hF1 : Fr w (firstsT (tmsI xs w 12)) := fr_firsts hT10.wid
  have hFT : Tws w (firstsT (tmsI xs w 12)) := hT10.firsts
  have hFl : (firstsT (tmsI xs w 12)).length ≤ 12 := Nat.le_trans (outT_len _ _) hTl10
  have hp10 := tx_length t10
  have hx10 : ∀ p ∈ p10, p.2.1.length < 2 ^ 63 := fun p hp => by have := tx_wid t10 hFT.wid p hp; omega
  refine TL.move hF rfl rfl ?_
  refine TL.extract hF rfl rfl rfl ?_
  refine TL.extract hF rfl rfl rfl ?_
  refine TL.assign hF rfl rfl ?_
  refine TL.assign hF rfl rfl ?_
  refine TL.nil ?_
  refine TQ.then_n ?_
  refine T.seq ?_
  refine T.region ?_
  refine TL.move hF rfl rfl ?_
  refine TL.move hF rfl rfl ?_
  refine TL.call hF (times_ll (most := 12) hy hl2 hyw (by omega) (by omega)) rfl rfl ?_
  rintro _ _ ⟨aa12, cc12, q12, segs, rfl, tt12, hh12, rfl⟩
  refine TL.freeze (segs) rfl (fun S3 w3 hz3 => ?_)
  replace hb := hb.frz hz3
  replace hx := hx.old hz3
  replace hy := hy.old hz3
  replace hk := hk.old hz3
  replace h10 := h10.old hz3
  replace hh12 := hh12.frz hz3
  have hq12 := tx_length tt12
  have hT12 : Tws w (tmsI ys w 12) := tws_tms hw1 hw4 ys 12
  have hTl12 : (tmsI ys w 12).length ≤ 12 := tmsI_len ys w 12
  refine TL.call hF (Firsts_prog hh12 (by omega) (fun p hp => by have := tx_wid tt12 hT12.wid p hp; omega)) rfl rfl ?_
  rintro _ _ h
  obtain ⟨a12, c12, p12, segs, rfl, t12, h12, rfl⟩ := h.lit (show firstsS (tx q12) = (firstsT (tmsI ys w 12), 0) by rw [tt12]; exact firstsS_tw hT12 (by omega))
  refine TL.freeze (segs) rfl (fun S4 w4 hz4 => ?_)
  replace hb := hb.frz hz4
  replace hx := hx.old hz4
  replace hy := hy.old hz4
  replace hk := hk.old hz4
  replace h10 := h10.old hz4
  replace hh12 := hh12.old hz4
  replace h12 := h12.frz hz4
  have hG : Fr w (firstsT (tmsI ys w 12)) := fr_firsts hT12.wid
  have hGT : Tws w (firstsT (tmsI ys w 12)) := hT12.firsts
  have hGl : (firstsT (tmsI ys w 12)).length ≤ 12 := Nat.le_trans (outT_len _ _) hTl12
  have hp12 := tx_length t12
  have hx12 : ∀ p ∈ p12, p.2.1.length < 2 ^ 63 := fun p hp => by have := tx_wid t12 hGT.wid p hp; omega
  generalize hFe : firstsT (tmsI xs w 12) = F at t10 hF1 hFT hFl hp10
  generalize hGe : firstsT (tmsI ys w 12) = G at t12 hG hGT hGl hp12
  refine TL.move hF rfl rfl ?_
  refine TL.extract hF rfl rfl rfl ?_
  refine TL.extract hF rfl rfl rfl ?_
  refine TL.assign hF rfl rfl ?_
  refine TL.assign hF rfl rfl ?_
  refine TL.nil ?_
  refine TQ.then_n ?_
  refine T.seq ?_
  refine T.region ?_
  refine TL.move hF rfl rfl ?_
  refine TL.move hF rfl rfl ?_
  refine TL.call hF (Either_prog h10 h12 (by omega) (by omega) hx10 hx12) rfl rfl ?_
  rintro _ _ h
  obtain ⟨a14, c14, p14, segs, rfl, t14, h14, rfl⟩ := h.lit (show eitherS (tx p10) (tx p12) = ((firstsT (F ++ G)), 0) by rw [t10, t12]; exact eitherS_tw hFT hGT (by omega) (by omega) hF1.firsts.symm hG.firsts.symm)
  refine TL.freeze (segs) rfl (fun S5 w5 hz5 => ?_)
  replace hb := hb.frz hz5
  replace hx := hx.old hz5
  replace hy := hy.old hz5
  replace hk := hk.old hz5
  replace h10 := h10.old hz5
  replace h12 := h12.old hz5
  replace h14 := h14.frz hz5
  have hp14 := tx_length t14
  have hWE : Wid w (F ++ G) := fun x hx => (List.mem_append.1 hx).elim (hF1.wid x) (hG.wid x)
  have hE := fr_firsts hWE
  have hET : Tws w (firstsT (F ++ G)) := (hFT.app hGT).firsts
  have hEl : (firstsT (F ++ G)).length ≤ 24 := Nat.le_trans (outT_len _ _) (by rw [List.length_append]; omega)
  have hx14 : ∀ p ∈ p14, p.2.1.length < 2 ^ 63 := fun p hp => by have := tx_wid t14 hET.wid p hp; omega
  refine TL.move hF rfl rfl ?_
  refine TL.extract hF rfl rfl rfl ?_
  refine TL.extract hF rfl rfl rfl ?_
  refine TL.assign hF rfl rfl ?_
  refine TL.assign hF rfl rfl ?_
  refine TL.nil ?_
  refine TQ.then_n ?_
  refine T.seq ?_
  refine T.region ?_
  refine TL.move hF rfl rfl ?_
  refine TL.move hF rfl rfl ?_
  refine TL.call hF (Both_prog h10 h12 (by omega) (by omega) hx10 hx12) rfl rfl ?_
  rintro _ _ h
  obtain ⟨a16, c16, p16, segs, rfl, t16, h16, rfl⟩ := h.lit (show bothS (tx p10) (tx p12) = ((firstsT (joinsT F G)), 0) by rw [t10, t12]; exact bothS_tw hFT hGT (by omega) (by omega) hF1.firsts.symm hG.firsts.symm)
  refine TL.freeze (segs) rfl (fun S6 w6 hz6 => ?_)
  replace hb := hb.frz hz6
  replace hx := hx.old hz6
  replace hy := hy.old hz6
  replace hk := hk.old hz6
  replace h10 := h10.old hz6
  replace h12 := h12.old hz6
  replace h14 := h14.old hz6
  replace h16 := h16.frz hz6
  have hp16 := tx_length t16
  have hWJ := wid_joins hF1.wid hG.wid
  have hB := fr_firsts hWJ
  have hBT : Tws w (firstsT (joinsT F G)) := (hFT.joins hGT).firsts
  have hBl : (firstsT (joinsT F G)).length ≤ 144 := Nat.le_trans (outT_len _ _) (by rw [joinsT_len]; exact Nat.mul_le_mul hFl hGl)
  have hx16 : ∀ p ∈ p16, p.2.1.length < 2 ^ 63 := fun p hp => by have := tx_wid t16 hBT.wid p hp; omega
  refine TL.move hF rfl rfl ?_
  refine TL.extract hF rfl rfl rfl ?_
  refine TL.extract hF rfl rfl rfl ?_
  refine TL.assign hF rfl rfl ?_
  refine TL.assign hF rfl rfl ?_
  refine TL.nil ?_
  refine TQ.then_n ?_
  refine T.seq ?_
  refine T.region ?_
  refine TL.move hF rfl rfl ?_
  refine TL.move hF rfl rfl ?_
  refine TL.call hF (Both_prog h10 h14 (by omega) (by omega) hx10 hx14) rfl rfl ?_
  rintro _ _ h
  obtain ⟨a18, c18, p18, segs, rfl, t18, h18, rfl⟩ := h.lit (show bothS (tx p10) (tx p14) = (F, 0) by rw [t10, t14, bothS_tw hFT hET (by omega) (by omega) hF1.firsts.symm hE.firsts.symm, absorb hF1 hG])
  refine TL.freeze (segs) rfl (fun S7 w7 hz7 => ?_)
  replace hb := hb.frz hz7
  replace hx := hx.old hz7
  replace hy := hy.old hz7
  replace hk := hk.old hz7
  replace h10 := h10.old hz7
  replace h12 := h12.old hz7
  replace h14 := h14.old hz7
  replace h16 := h16.old hz7
  replace h18 := h18.frz hz7
  have hp18 := tx_length t18
  refine TL.move hF rfl rfl ?_
  refine TL.extract hF rfl rfl rfl ?_
  refine TL.extract hF rfl rfl rfl ?_
  refine TL.assign hF rfl rfl ?_
  refine TL.assign hF rfl rfl ?_
  refine TL.nil ?_
  refine TQ.then_n ?_
  refine T.seq ?_
  refine T.region ?_
  refine TL.move hF rfl rfl ?_
  refine TL.move hF rfl rfl ?_
  refine TL.call hF (Ahead_prog h10 h12 (by omega) (by omega) hx10 hx12) rfl rfl ?_
  rintro _ _ h
  obtain ⟨rfl, segs, rfl⟩ := h.lit (show aheadS (tx p10) (tx p12) = (aheadT F G, 0) by rw [t10, t12]; exact aheadS_tw hFT hGT (by omega) (by omega) hF1.firsts.symm hG.firsts.symm)
  refine TL.hsub [] (List.nil_sublist _) ?_
  refine TL.move hF rfl rfl ?_
  refine TL.extract hF rfl rfl rfl ?_
  refine TL.extract hF rfl rfl rfl ?_
  refine TL.assign hF rfl rfl ?_
  refine TL.assign hF rfl rfl ?_
  refine TL.nil ?_
  refine TQ.then_n ?_
  refine T.seq ?_
  refine T.seq ?_
  refine T.region ?_
  refine TL.move hF rfl rfl ?_
  refine TL.bin hF rfl rfl rfl rfl ?_
  refine TL.move hF rfl rfl ?_
  refine TL.on rfl rfl rfl (by simp) ?_
  refine TL.move hF rfl rfl ?_
  refine TL.on rfl rfl rfl (by simp) ?_
  refine TL.bin hF rfl rfl rfl rfl ?_
  refine TL.pickF hF rfl (by simp) rfl rfl ?_
  refine TL.move hF rfl rfl ?_
  refine TL.on rfl rfl rfl (by simp) ?_
  refine TL.move hF rfl rfl ?_
  refine TL.on rfl rfl rfl (by simp) ?_
  refine TL.bin hF rfl rfl rfl rfl ?_
  refine TL.pickF hF rfl (by simp) rfl rfl ?_
  refine TL.move hF rfl rfl ?_
  refine TL.on rfl rfl rfl (by simp) ?_
  refine TL.move hF rfl rfl ?_
  refine TL.on rfl rfl rfl (by simp) ?_
  refine TL.bin hF rfl rfl rfl rfl ?_
  refine TL.pickF hF rfl (by simp) rfl rfl ?_
  refine TL.move hF rfl rfl ?_
  refine TL.on rfl rfl rfl (by simp) ?_
  refine TL.move hF rfl rfl ?_
  refine TL.on rfl rfl rfl (by simp) ?_
  refine TL.bin hF rfl rfl rfl rfl ?_
  refine TL.pickF hF rfl (by simp) rfl rfl ?_
  refine TL.move hF rfl rfl ?_
  refine TL.on rfl rfl rfl (by simp) ?_
  refine TL.move hF rfl rfl ?_
  refine TL.on rfl rfl rfl (by simp) ?_
  refine TL.bin hF rfl rfl rfl rfl ?_
  refine TL.pickF hF rfl (by simp) rfl rfl ?_
  refine TL.move hF rfl rfl ?_
  refine TL.on rfl rfl rfl (by simp) ?_
  refine TL.move hF rfl rfl ?_
  refine TL.on rfl rfl rfl (by simp) ?_
  refine TL.move hF rfl rfl ?_
  refine TL.on rfl rfl rfl (by simp) ?_
  refine TL.callV hF (wide_true h14.ro (by omega) t14 hET.wid) rfl rfl ?_
  refine TL.on rfl rfl rfl (by simp) ?_
  refine TL.not hF rfl rfl ?_
  refine TL.pickF hF rfl (by simp) rfl rfl ?_
  refine TL.move hF rfl rfl ?_
  refine TL.on rfl rfl rfl (by simp) ?_
  refine TL.move hF rfl rfl ?_
  refine TL.on rfl rfl rfl (by simp) ?_
  refine TL.move hF rfl rfl ?_
  refine TL.on rfl rfl rfl (by simp) ?_
  refine TL.callV hF (wide_true h16.ro (by omega) t16 hBT.wid) rfl rfl ?_
  refine TL.on rfl rfl rfl (by simp) ?_
  refine TL.not hF rfl rfl ?_
  refine TL.pickF hF rfl (by simp) rfl rfl ?_
  refine TL.move hF rfl rfl ?_
  refine TL.on rfl rfl rfl (by simp) ?_
  refine TL.move hF rfl rfl ?_
  refine TL.on rfl rfl rfl (by simp) ?_
  refine TL.call hF (apart_true h14.ro (by omega) (tx_wid t14 hET.wid) hw4 (by rw [t14]; exact hE.firsts.symm)) rfl rfl ?_
  rintro _ _ ⟨rfl, segs, rfl⟩
  refine TL.hsub [] (List.nil_sublist _) ?_
  refine TL.on rfl rfl rfl (by simp) ?_
  refine TL.not hF rfl rfl ?_
  refine TL.pickF hF rfl (by simp) rfl rfl ?_
  refine TL.move hF rfl rfl ?_
  refine TL.on rfl rfl rfl (by simp) ?_
  refine TL.move hF rfl rfl ?_
  refine TL.on rfl rfl rfl (by simp) ?_
  refine TL.call hF (apart_true h16.ro (by omega) (tx_wid t16 hBT.wid) hw4 (by rw [t16]; exact hB.firsts.symm)) rfl rfl ?_
  rintro _ _ ⟨rfl, segs, rfl⟩
  refine TL.hsub [] (List.nil_sublist _) ?_
  refine TL.on rfl rfl rfl (by simp) ?_
  refine TL.not hF rfl rfl ?_
  refine TL.pickF hF rfl (by simp) rfl rfl ?_
  refine TL.move hF rfl rfl ?_
  refine TL.on rfl rfl rfl (by simp) ?_
  refine TL.move hF rfl rfl ?_
  refine TL.on rfl rfl rfl (by simp) ?_
  refine TL.move hF rfl rfl ?_
  refine TL.on rfl rfl rfl (by simp) ?_
  refine TL.callV hF (EqL_same h18.ro h10.ro t18 t10 (hFT.good hw4 (by omega))) rfl rfl ?_
  refine TL.on rfl rfl rfl (by simp) ?_
  refine TL.not hF rfl rfl ?_
  refine TL.pickF hF rfl (by simp) rfl rfl ?_
  refine TL.move hF rfl rfl ?_
  refine TL.on rfl rfl rfl (by simp) ?_
  refine TL.move hF rfl rfl ?_
  refine TL.on rfl rfl rfl (by simp) ?_
  refine TL.move hF rfl rfl ?_
  refine TL.on rfl rfl rfl (by simp) ?_
  refine TL.move hF rfl rfl ?_
  refine TL.on rfl rfl rfl (by simp) ?_
  have hq := EqualLists_fn (ca := c14) (cb := c10) (h14.ro (η' := [])) h10.ro (by omega) hx14
  rw [t14, t10, ← ahead_either hF1 hG] at hq
  refine TL.callV hF hq rfl rfl ?_
  refine TL.on rfl rfl rfl (by simp) ?_
  refine TL.neqB hF rfl rfl rfl ?_
  refine TL.pickF hF rfl (by simp) rfl rfl ?_
  refine TL.move hF rfl rfl ?_
  refine TL.on rfl rfl rfl (by simp) ?_
  refine TL.move hF rfl rfl ?_
  refine TL.on rfl rfl rfl (by simp) ?_
  refine TL.move hF rfl rfl ?_
  refine TL.on rfl rfl rfl (by simp) ?_
  refine TL.move hF rfl rfl ?_
  refine TL.on rfl rfl rfl (by simp) ?_
  have hq := EqualLists_fn (ca := c16) (cb := c12) (h16.ro (η' := [])) h12.ro (by omega) hx16
  rw [t16, t12, ← ahead_both hF1 hG] at hq
  refine TL.callV hF hq rfl rfl ?_
  refine TL.on rfl rfl rfl (by simp) ?_
  refine TL.neqB hF rfl rfl rfl ?_
  refine TL.pickF hF rfl (by simp) rfl rfl ?_
  refine TL.nil ?_
  refine TQ.then_n ?_
  refine T.cond_f rfl (by simp) ?_
  refine T.skip ?_
  refine TQ.then_n ?_
  refine T.seq ?_
  refine T.seq ?_
  refine T.region ?_
  refine TL.assign hF rfl rfl ?_
  refine TL.nil ?_
  refine TQ.then_n ?_
  refine T.block ?_
  refine T.loop (ι := Nat) (fun k => k ≤ ks.length) (fun k => [(3, .slice e ks.length g), (9, .int .i64 (w : Int)), (10, .slice a10 p10.length c10), (12, .slice a12 p12.length c12), (14, .slice a14 p14.length c14), (16, .slice a16 p16.length c16), (8, .bool false), (22, .int .i64 (k : Int))]) (fun _ => []) (fun k => ks.length - k) 0 (Nat.zero_le _) ⟨rfl, rfl, rfl, rfl, rfl, rfl, rfl, rfl, trivial⟩ rfl ?_
  intro k hk2
  have hb1 := hb
  refine T.seq ?_
  refine T.seq ?_
  refine T.region ?_
  refine TL.move hF rfl rfl ?_
  refine TL.move hF rfl rfl ?_
  refine TL.len hF rfl rfl ?_
  refine TL.bin hF rfl rfl rfl rfl ?_
  refine TL.move hF rfl rfl ?_
  refine TL.gd (t := 141) rfl (fun g11_141 => ?_) (fun g11_141 => ?_)
  · refine TL.on rfl rfl rfl (decide_eq_true g11_141) ?_
    refine TL.move hF rfl rfl ?_
    refine TL.on rfl rfl rfl (decide_eq_true g11_141) ?_
    refine TL.bin hF rfl rfl rfl rfl ?_
    refine TL.pickT hF rfl (decide_eq_true g11_141) rfl rfl ?_
    refine TL.nil ?_
    refine TQ.then_n ?_
    first | refine T.cond_d rfl (fun ht144 => ?_) (fun ht144 => ?_) | refine T.cond _ rfl (fun ht144 => ?_) (fun ht144 => ?_)
    · refine T.skip ?_
      refine TQ.then_n ?_
      refine T.seq ?_
      refine T.block ?_
      refine T.seq ?_
      refine T.region ?_
      refine TL.move hF rfl rfl ?_
      refine TL.move hF rfl rfl ?_
      refine TL.indexAddr hF rfl rfl (hk.adi (i := k) (by simp; omega)) (by omega) (by omega) rfl ?_
      refine TL.load hF rfl (hk.ro.int (i := k) (by omega)) rfl ?_
      refine TL.move hF rfl rfl ?_
      have hkl : k < ks.length := by omega
      refine TL.call hF (time_fn (hkw _ (List.getElem_mem hkl)) (by omega)) rfl rfl ?_
      rintro _ _ ⟨ta, tc, ts, rfl, hto, rfl⟩
      refine TL.freeze [ts] rfl (fun S9 w9 hz9 => ?_)
      have htt : Tw w (tmI w ks[k]) := tw_tmI hw1 hw4 _
      have ht9 : Row S9 w9 [] ta (ints (tmI w ks[k])) := (hto.row (η := [ts]) List.mem_cons_self).frz hz9
      have htl : (tmI w ks[k]).length = w := tmI_len _ _
      have k10 := h10.old hz9
      have k12 := h12.old hz9
      have k14 := h14.old hz9
      have k16 := h16.old hz9
      refine TL.assign hF rfl rfl ?_
      refine TL.nil ?_
      refine TQ.then_n ?_
      refine T.seq ?_
      refine T.region ?_
      refine TL.move hF rfl rfl ?_
      refine TL.move hF rfl rfl ?_
      have hq := Beyond_prog (η := []) (c := c10) (d := tc) k10 ht9 (by omega) hx10 (by omega)
      rw [htl] at hq
      refine TL.call hF hq rfl rfl ?_
      rintro _ _ h
      obtain ⟨rfl, segs, rfl⟩ := h.lit (show beyondS (tx p10) (tmI w ks[k]) = (pastT F (tmI w ks[k]), 0) by rw [t10, beyondS_tw hFT htt (by omega) hF1.firsts.symm])
      refine TL.hsub [] (List.nil_sublist _) ?_
      refine TL.move hF rfl rfl ?_
      refine TL.extract hF rfl rfl rfl ?_
      refine TL.extract hF rfl rfl rfl ?_
      refine TL.assign hF rfl rfl ?_
      refine TL.assign hF rfl rfl ?_
      refine TL.nil ?_
      refine TQ.then_n ?_
      refine T.seq ?_
      refine T.region ?_
      refine TL.move hF rfl rfl ?_
      refine TL.move hF rfl rfl ?_
      have hq := Beyond_prog (η := []) (c := c12) (d := tc) k12 ht9 (by omega) hx12 (by omega)
      rw [htl] at hq
      refine TL.call hF hq rfl rfl ?_
      rintro _ _ h
      obtain ⟨rfl, segs, rfl⟩ := h.lit (show beyondS (tx p12) (tmI w ks[k]) = (pastT G (tmI w ks[k]), 0) by rw [t12, beyondS_tw hGT htt (by omega) hG.firsts.symm])
      refine TL.hsub [] (List.nil_sublist _) ?_
      refine TL.move hF rfl rfl ?_
      refine TL.extract hF rfl rfl rfl ?_
      refine TL.extract hF rfl rfl rfl ?_
      refine TL.assign hF rfl rfl ?_
      refine TL.assign hF rfl rfl ?_
      refine TL.nil ?_
      refine TQ.then_n ?_
      refine T.seq ?_
      refine T.region ?_
      refine TL.move hF rfl rfl ?_
      refine TL.move hF rfl rfl ?_
      have hq := Beyond_prog (η := []) (c := c14) (d := tc) k14 ht9 (by omega) hx14 (by omega)
      rw [htl] at hq
      refine TL.call hF hq rfl rfl ?_
      rintro _ _ h
      obtain ⟨rfl, segs, rfl⟩ := h.lit (show beyondS (tx p14) (tmI w ks[k]) = (pastT F (tmI w ks[k]) || pastT G (tmI w ks[k]), 0) by rw [t14, beyondS_tw hET htt (by omega) hE.firsts.symm, past_firsts hWE htl, past_app])
      refine TL.hsub [] (List.nil_sublist _) ?_
      refine TL.move hF rfl rfl ?_
      refine TL.extract hF rfl rfl rfl ?_
      refine TL.extract hF rfl rfl rfl ?_
      refine TL.assign hF rfl rfl ?_
      refine TL.assign hF rfl rfl ?_
      refine TL.nil ?_
      refine TQ.then_n ?_
      refine T.seq ?_
      refine T.region ?_
      refine TL.move hF rfl rfl ?_
      refine TL.move hF rfl rfl ?_
      have hq := Beyond_prog (η := []) (c := c16) (d := tc) k16 ht9 (by omega) hx16 (by omega)
      rw [htl] at hq
      refine TL.call hF hq rfl rfl ?_
      rintro _ _ h
      obtain ⟨rfl, segs, rfl⟩ := h.lit (show beyondS (tx p16) (tmI w ks[k]) = (pastT F (tmI w ks[k]) && pastT G (tmI w ks[k]), 0) by rw [t16, beyondS_tw hBT htt (by omega) hB.firsts.symm, past_firsts hWJ htl, past_joins hF1.wid hG.wid htl])
      refine TL.hsub [] (List.nil_sublist _) ?_
      refine TL.move hF rfl rfl ?_
      refine TL.extract hF rfl rfl rfl ?_
      refine TL.extract hF rfl rfl rfl ?_
      refine TL.assign hF rfl rfl ?_
      refine TL.assign hF rfl rfl ?_
      refine TL.nil ?_
      refine TQ.then_n ?_
      refine T.seq ?_
      refine T.region ?_
      refine TL.move hF rfl rfl ?_
      refine TL.bin hF rfl rfl rfl rfl ?_
      refine TL.move hF rfl rfl ?_
      refine TL.on rfl rfl rfl (by simp) ?_
      refine TL.move hF rfl rfl ?_
      refine TL.on rfl rfl rfl (by simp) ?_
      refine TL.bin hF rfl rfl rfl rfl ?_
      refine TL.pickF hF rfl (by simp) rfl rfl ?_
      refine TL.move hF rfl rfl ?_
      refine TL.on rfl rfl rfl (by simp) ?_
      refine TL.move hF rfl rfl ?_
      refine TL.on rfl rfl rfl (by simp) ?_
      refine TL.bin hF rfl rfl rfl rfl ?_
      refine TL.pickF hF rfl (by simp) rfl rfl ?_
      refine TL.move hF rfl rfl ?_
      refine TL.on rfl rfl rfl (by simp) ?_
      refine TL.move hF rfl rfl ?_
      refine TL.on rfl rfl rfl (by simp) ?_
      refine TL.bin hF rfl rfl rfl rfl ?_
      refine TL.pickF hF rfl (by simp) rfl rfl ?_
      refine TL.move hF rfl rfl ?_
      refine TL.on rfl rfl rfl (by simp) ?_
      refine TL.move hF rfl rfl ?_
      refine TL.on rfl rfl rfl (by simp) ?_
      refine TL.move hF rfl rfl ?_
      refine TL.on rfl rfl rfl (by simp) ?_
      refine TL.move hF rfl rfl ?_
      refine TL.gb (t := 194) rfl (fun g18_194 => ?_) (fun g18_194 => ?_)
      · refine TL.off hF rfl rfl rfl g18_194 rfl ?_
        refine TL.on rfl rfl rfl (by simp) ?_
        refine TL.pickT hF rfl g18_194 rfl rfl ?_
        refine TL.on rfl rfl rfl (by simp) ?_
        refine TL.neqB hF rfl rfl rfl ?_
        refine TL.pickF hF rfl (by simp) rfl rfl ?_
        refine TL.move hF rfl rfl ?_
        refine TL.on rfl rfl rfl (by simp [g18_194]) ?_
        refine TL.move hF rfl rfl ?_
        refine TL.on rfl rfl rfl (by simp [g18_194]) ?_
        refine TL.move hF rfl rfl ?_
        refine TL.on rfl rfl rfl (by simp [g18_194]) ?_
        refine TL.move hF rfl rfl ?_
        refine TL.on rfl rfl rfl g18_194 ?_
        refine TL.move hF rfl rfl ?_
        refine TL.on rfl rfl rfl (by simp [g18_194]) ?_
        refine TL.pickT hF rfl g18_194 rfl rfl ?_
        refine TL.on rfl rfl rfl (by simp [g18_194]) ?_
        refine TL.neqB hF rfl rfl rfl ?_
        refine TL.pickF hF rfl (by simp [g18_194]) rfl rfl ?_
        refine TL.nil ?_
        refine TQ.then_n ?_
        refine T.cond_f rfl (by simp [g18_194]) ?_
        refine T.skip ?_
        refine TQ.block_n ?_
        refine TQ.then_n ?_
        refine T.region ?_
        refine TL.move hF rfl rfl ?_
        refine TL.add hF rfl rfl (by omega) (by omega) rfl ?_
        refine TL.assign hF rfl rfl ?_
        refine TL.nil ?_
        refine TQ.thaw hz9 ?_
        refine TQ.hsub [] (List.nil_sublist _) ?_
        refine TQ.round (k + 1) (by omega) (by omega) ⟨rfl, rfl, rfl, rfl, rfl, rfl, rfl, rfl, trivial⟩ rfl
      · refine TL.on rfl rfl rfl g18_194 ?_
        refine TL.move hF rfl rfl ?_
        refine TL.on rfl rfl rfl (by simp) ?_
        refine TL.pickF hF rfl g18_194 rfl rfl ?_
        refine TL.on rfl rfl rfl (by simp) ?_
        refine TL.neqB hF rfl rfl rfl ?_
        refine TL.pickF hF rfl (by simp) rfl rfl ?_
        refine TL.move hF rfl rfl ?_
        refine TL.on rfl rfl rfl (by simp [g18_194]) ?_
        refine TL.move hF rfl rfl ?_
        refine TL.on rfl rfl rfl (by simp [g18_194]) ?_
        refine TL.move hF rfl rfl ?_
        refine TL.on rfl rfl rfl (by simp [g18_194]) ?_
        refine TL.move hF rfl rfl ?_
        refine TL.off hF rfl rfl rfl g18_194 rfl ?_
        refine TL.on rfl rfl rfl (by simp [g18_194]) ?_
        refine TL.pickF hF rfl g18_194 rfl rfl ?_
        refine TL.on rfl rfl rfl (by simp [g18_194]) ?_
        refine TL.neqB hF rfl rfl rfl ?_
        refine TL.pickF hF rfl (by simp [g18_194]) rfl rfl ?_
        refine TL.nil ?_
        refine TQ.then_n ?_
        refine T.cond_f rfl (by simp [g18_194]) ?_
        refine T.skip ?_
        refine TQ.block_n ?_
        refine TQ.then_n ?_
        refine T.region ?_
        refine TL.move hF rfl rfl ?_
        refine TL.add hF rfl rfl (by omega) (by omega) rfl ?_
        refine TL.assign hF rfl rfl ?_
        refine TL.nil ?_
        refine TQ.thaw hz9 ?_
        refine TQ.hsub [] (List.nil_sublist _) ?_
        refine TQ.round (k + 1) (by omega) (by omega) ⟨rfl, rfl, rfl, rfl, rfl, rfl, rfl, rfl, trivial⟩ rfl
    · refine T.exit ?_
      refine TQ.then_x ?_
      refine TQ.then_x ?_
      refine TQ.block_x ?_
      refine TQ.then_n ?_
      refine T.seq ?_
      refine T.region ?_
      refine TL.call hF ordered_fn rfl rfl ?_
      rintro _ _ rfl
      refine TL.assign hF rfl rfl ?_
      refine TL.nil ?_
      refine TQ.then_n ?_
      refine T.ret ?_
      exact TQ.retsF [8] _ hb rfl rfl rfl (fun _ => rfl)
  · refine TL.off hF rfl rfl rfl (decide_eq_false g11_141) rfl ?_
    refine TL.off hF rfl rfl rfl (decide_eq_false g11_141) rfl ?_
    refine TL.pickF hF rfl (decide_eq_false g11_141) rfl rfl ?_
    refine TL.nil ?_
    refine TQ.then_n ?_
    refine T.cond_f rfl rfl ?_
    refine T.exit ?_
    refine TQ.then_x ?_
    refine TQ.then_x ?_
    refine TQ.block_x ?_
    refine TQ.then_n ?_
    refine T.seq ?_
    refine T.region ?_
    refine TL.call hF ordered_fn rfl rfl ?_
    rintro _ _ rfl
    refine TL.assign hF rfl rfl ?_
    refine TL.nil ?_
    refine TQ.then_n ?_
    refine T.ret ?_
    exact TQ.retsF [8] _ hb rfl rfl rfl (fun _ => rfl)
end Go.Proofs.YteimjjpigohnhaaGreat
namespace Go.Proofs.YteimjjpigohnhaaGreat
open Go.Sl Go.ChangeShapes Go.WideShapes Go.ChangeAt Go.RowKit 
set_option maxRecDepth 100000 in
theorem orderLaws_lifted (os : Os) (started : os.Started) (H : Type) (enc : TypeId × Value → H) :
    ReturnsInHanded {} Tryz.checked os 11 .any (Rows.orderLawsSpec.pre6 enc Tryz.prog Tryz.f11 Rows.orderLawsRow.domain false) (Rows.orderLawsSpec.post enc Tryz.prog Tryz.f11 false true false false) := by
  refine returnsInHanded_of_change (C := Tryz.checked) Tryz.own started (by kernel_rfl) Tryz.func11
    (ChangeSpec.witness6 (enc := enc) (C := Tryz.checked) false ⟨#[], #[.slice none 0 0, .slice none 0 0, .int .i64 0, .slice none 0 0], []⟩ 8 (by kernel_rfl) (by kernel_rfl) (by kernel_rfl) (by kernel_rfl)) ?_
  intro W base args ds gs before hval hW hcnd _
  have hW' := hW
  obtain ⟨p, q, hA0, hV, rfl, hfz, hnd⟩ := hW
  have hA : DataW.TrodAll enc Tryz.prog W 0 (fun _ => true) true [22, 22, 3, 22] args.toList ds p := hA0
  have hval' : ∀ (j : Nat) t v, (#[22, 22, 3, 22] : Array TypeId)[j]? = some t → args[j]? = some v → Value.okWide Tryz.prog W .any base t v := hval
  obtain ⟨v0, v1, v2, v3, d0, d1, d2, d3, p0, p1, p2, p3, rfl, rfl, rfl, h0, h1, h2, h3⟩ := trodAll_four hA
  obtain ⟨_, _, _, rfl⟩ := okWide_slice u22 (hval' 0 22 v0 rfl rfl)
  obtain ⟨_, h0⟩ := h0
  obtain ⟨a0, xs0, c0, e0, hx0, hl0, hw0⟩ := time_read h0
  obtain ⟨_, _, _, rfl⟩ := okWide_slice u22 (hval' 1 22 v1 rfl rfl)
  obtain ⟨_, h1⟩ := h1
  obtain ⟨a1, xs1, c1, e1, hx1, hl1, hw1⟩ := time_read h1
  obtain ⟨z2, rfl, _, _, wz2⟩ := open_int u3 (hval' 2 3 v2 rfl rfl) h2
  have wz2 := wf_i64 wz2
  obtain ⟨_, _, _, rfl⟩ := okWide_slice u22 (hval' 3 22 v3 rfl rfl)
  obtain ⟨_, h3⟩ := h3
  obtain ⟨a3, xs3, c3, e3, hx3, hl3, hw3⟩ := time_read h3
  rw [e0, e1, e3] at hW' ⊢
  refine (calls_true (OrderLaws_fn hx0 hx1 hx3 hl0 hl1 hl3 hw0 hw1 hw3 wz2)).mono fun e W' ⟨he, hw⟩ => ⟨_, he, ?_⟩
  exact law_post (f := Tryz.f11) Tryz.laidOut rfl 4 rfl u4 hW' rfl (by decide +kernel) hw
theorem orderLaws_holds : Rows.OrderLawsSaid :=
  OpenClaim.holds_of_wide 11 Tryz.f11 rfl rfl rfl rfl rfl rfl rfl ⟨rfl, rfl, rfl, rfl, rfl⟩ rfl rfl rfl rfl rfl (by kernel_rfl) Tryz.func11 (by kernel_rfl)
    (of_decide_eq_true (by kernel_rfl)) (by unfold Func.isWrapper; first | (rw [if_pos (by decide +kernel)]; kernel_rfl) | (rw [if_neg (by decide +kernel)]; exact ⟨rfl, rfl⟩))
    (fun os started H enc _ => orderLaws_lifted os started H enc)
#print axioms orderLaws_holds
end Go.Proofs.YteimjjpigohnhaaGreat
