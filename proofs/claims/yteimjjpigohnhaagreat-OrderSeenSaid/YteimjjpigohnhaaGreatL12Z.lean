/- Where one stands: for every input. No condition. -/
import Derived.Test.YteimjjpigohnhaaGreatRf
import Derived.Laws.IdiomArrays
import Derived.Test.YteimjjpigohnhaaGreatRows
/- Times that fit: what functions make of them. -/
namespace Go.Proofs.YteimjjpigohnhaaGreat
open Go.Sl
/-- A time of so many numbers. -/
def Tw (w : Nat) (t : Tm) : Prop := t.length = w ∧ isT t = true
def Tws (w : Nat) (l : List Tm) : Prop := ∀ x ∈ l, Tw w x
theorem Tws.wid {w : Nat} {l : List Tm} (h : Tws w l) : Wid w l := fun x hx => (h x hx).1
theorem isT_iff {t : Tm} : isT t = true ↔ (1 ≤ t.length ∧ t.length ≤ 4) ∧ ∀ n ∈ t, 0 ≤ n ∧ n ≤ 1073741824 := by simp [isT]
theorem tw_tmI {w : Nat} (h1 : 1 ≤ w) (h4 : w ≤ 4) (n : Int) : Tw w (tmI w n) := ⟨tmI_len w n, isT_iff.2 ⟨by rw [tmI_len]; exact ⟨h1, h4⟩, fun x hx => by have := tmI_range w n x hx; omega⟩⟩
theorem tws_tms {w : Nat} (h1 : 1 ≤ w) (h4 : w ≤ 4) (l : List Int) (k : Nat) : Tws w (tmsI l w k) := fun x hx => by
  obtain ⟨n, _, rfl⟩ := List.mem_map.1 hx
  exact tw_tmI h1 h4 n
theorem tmsI_len (l : List Int) (w k : Nat) : (tmsI l w k).length ≤ k := by unfold tmsI; rw [List.length_map, List.length_take]; omega
theorem Tws.nil (w : Nat) : Tws w [] := fun _ h => by simp at h
theorem Tws.one {w : Nat} {t : Tm} (h : Tw w t) : Tws w [t] := fun x hx => by rw [List.mem_singleton.1 hx]; exact h
theorem Tws.app {w : Nat} {l m : List Tm} (h : Tws w l) (h2 : Tws w m) : Tws w (l ++ m) := fun x hx => (List.mem_append.1 hx).elim (h x) (h2 x)
theorem Tws.sub {w : Nat} {l m : List Tm} (h : Tws w l) (hm : ∀ x ∈ m, x ∈ l) : Tws w m := fun x hx => h x (hm x hx)
theorem Tws.firsts {w : Nat} {l : List Tm} (h : Tws w l) : Tws w (firstsT l) := h.sub fun _ hx => (mem_outT.1 hx).1
theorem Tws.lasts {w : Nat} {l : List Tm} (h : Tws w l) : Tws w (lastsT l) := h.sub fun _ hx => (mem_outT.1 hx).1
theorem join_range : ∀ {a b : Tm}, (∀ n ∈ a, 0 ≤ n ∧ n ≤ 1073741824) → (∀ n ∈ b, 0 ≤ n ∧ n ≤ 1073741824) → ∀ n ∈ tjoin a b, 0 ≤ n ∧ n ≤ 1073741824
  | [], _, _, _, n, h => by simp [tjoin] at h
  | _ :: _, [], _, _, n, h => by simp [tjoin] at h
  | x :: a, y :: b, ha, hb, n, h => by
    have hx := ha x List.mem_cons_self
    have hy := hb y List.mem_cons_self
    simp only [tjoin, List.zipWith_cons_cons, List.mem_cons] at h
    rcases h with rfl | h
    · omega
    · exact join_range (fun n hn => ha n (List.mem_cons_of_mem _ hn)) (fun n hn => hb n (List.mem_cons_of_mem _ hn)) n h
theorem meet_range : ∀ {a b : Tm}, (∀ n ∈ a, 0 ≤ n ∧ n ≤ 1073741824) → (∀ n ∈ b, 0 ≤ n ∧ n ≤ 1073741824) → ∀ n ∈ tmeet a b, 0 ≤ n ∧ n ≤ 1073741824
  | [], _, _, _, n, h => by simp [tmeet] at h
  | _ :: _, [], _, _, n, h => by simp [tmeet] at h
  | x :: a, y :: b, ha, hb, n, h => by
    have hx := ha x List.mem_cons_self
    have hy := hb y List.mem_cons_self
    simp only [tmeet, List.zipWith_cons_cons, List.mem_cons] at h
    rcases h with rfl | h
    · omega
    · exact meet_range (fun n hn => ha n (List.mem_cons_of_mem _ hn)) (fun n hn => hb n (List.mem_cons_of_mem _ hn)) n h
theorem Tw.join {w : Nat} {a b : Tm} (ha : Tw w a) (hb : Tw w b) : Tw w (tjoin a b) := by
  have h1 := isT_iff.1 ha.2; have h2 := isT_iff.1 hb.2
  have e : (tjoin a b).length = w := by rw [tjoin_len (ha.1.trans hb.1.symm), ha.1]
  exact ⟨e, isT_iff.2 ⟨by rw [e, ← ha.1]; exact h1.1, join_range h1.2 h2.2⟩⟩
theorem Tw.meet {w : Nat} {a b : Tm} (ha : Tw w a) (hb : Tw w b) : Tw w (tmeet a b) := by
  have h1 := isT_iff.1 ha.2; have h2 := isT_iff.1 hb.2
  have e : (tmeet a b).length = w := by rw [tmeet_len (ha.1.trans hb.1.symm), ha.1]
  exact ⟨e, isT_iff.2 ⟨by rw [e, ← ha.1]; exact h1.1, meet_range h1.2 h2.2⟩⟩
theorem Tws.joins {w : Nat} {f g : List Tm} (hf : Tws w f) (hg : Tws w g) : Tws w (joinsT f g) := fun x hx => by
  obtain ⟨y, hy, hx2⟩ := List.mem_flatMap.1 hx
  obtain ⟨z, hz, rfl⟩ := List.mem_map.1 hx2
  exact (hf y hy).join (hg z hz)
theorem joinsT_len (f g : List Tm) : (joinsT f g).length = f.length * g.length := by unfold joinsT; exact flat_len g.length _ (fun x => by simp) f
theorem Tws.fit {w : Nat} {l : List Tm} (h : Tws w l) : fitT l = true := by
  cases l with
  | nil => rfl
  | cons t r =>
    unfold fitT fitW
    rw [List.all_eq_true]
    intro x hx
    have h1 := h x hx; have h2 := h t List.mem_cons_self
    rw [Bool.and_eq_true]
    exact ⟨h1.2, decide_eq_true (by rw [h1.1]; exact h2.1.symm)⟩
theorem Tws.times {w : Nat} {l : List Tm} (h : Tws w l) (hl : l.length ≤ 200) : timesE l = 0 := by unfold timesE; rw [if_neg (by omega), if_pos h.fit]
theorem Tws.front {w : Nat} {f g m : List Tm} (hf : Tws w f) (hg : Tws w g) (hm : Tws w m) (h1 : f.length ≤ 200) (h2 : g.length ≤ 200) (h3 : m.length ≤ 200) (e1 : f = firstsT f) (e2 : g = firstsT g) : frontE f g m = 0 := by
  unfold frontE
  rw [if_neg (by omega), if_pos ((hf.app hg).app hm).fit, if_pos ⟨e1, e2⟩]
theorem firsts_self {w : Nat} {l : List Tm} (h : Wid w l) : firstsT l = firstsT (firstsT l) := (fr_firsts h).firsts.symm
theorem firsts_nil : ([] : List Tm) = firstsT [] := rfl
theorem lessB_tw {w : Nat} {a b : Tm} (ha : Tw w a) (hb : Tw w b) : lessB a b = tle a b := by
  have h : fitT [a, b] = true := Tws.fit (w := w) fun x hx => by
    simp only [List.mem_cons, List.not_mem_nil, or_false] at hx
    rcases hx with rfl | rfl
    · exact ha
    · exact hb
  unfold lessB lessS
  rw [if_pos h]; simp
theorem meetS_tw {w : Nat} {a b : Tm} (ha : Tw w a) (hb : Tw w b) : meetS a b = (tmeet a b, 0) := by
  have h : fitT [a, b] = true := Tws.fit (w := w) fun x hx => by
    simp only [List.mem_cons, List.not_mem_nil, or_false] at hx
    rcases hx with rfl | rfl
    · exact ha
    · exact hb
  unfold meetS; rw [if_pos h]
theorem joinS_tw {w : Nat} {a b : Tm} (ha : Tw w a) (hb : Tw w b) : joinS a b = (tjoin a b, 0) := by
  have h : fitT [a, b] = true := Tws.fit (w := w) fun x hx => by
    simp only [List.mem_cons, List.not_mem_nil, or_false] at hx
    rcases hx with rfl | rfl
    · exact ha
    · exact hb
  unfold joinS; rw [if_pos h]
theorem firstsS_tw {w : Nat} {l : List Tm} (h : Tws w l) (hl : l.length ≤ 200) : firstsS l = (firstsT l, 0) := by unfold firstsS; rw [if_pos (h.times hl)]
theorem lastsS_tw {w : Nat} {l : List Tm} (h : Tws w l) (hl : l.length ≤ 200) : lastsS l = (lastsT l, 0) := by unfold lastsS; rw [if_pos (h.times hl)]
theorem beyondS_tw {w : Nat} {f : List Tm} {t : Tm} (hf : Tws w f) (ht : Tw w t) (hl : f.length ≤ 200) (e : f = firstsT f) : beyondS f t = (pastT f t, 0) := by unfold beyondS; rw [if_pos (hf.front (Tws.nil w) (Tws.one ht) hl (by simp) (by simp) e firsts_nil)]
theorem seenS_tw {w : Nat} {f : List Tm} {t : Tm} (hf : Tws w f) (ht : Tw w t) (hl : f.length ≤ 200) (e : f = firstsT f) (hn : f ≠ []) : seenS f t = (standsT f t, 0) := by unfold seenS; rw [if_pos (hf.front (Tws.nil w) (Tws.one ht) hl (by simp) (by simp) e firsts_nil), if_neg hn]
theorem aheadS_tw {w : Nat} {f g : List Tm} (hf : Tws w f) (hg : Tws w g) (hl : f.length ≤ 200) (hl2 : g.length ≤ 200) (e : f = firstsT f) (e2 : g = firstsT g) : aheadS f g = (aheadT f g, 0) := by unfold aheadS; rw [if_pos (hf.front hg (Tws.nil w) hl hl2 (by simp) e e2)]
theorem eitherS_tw {w : Nat} {f g : List Tm} (hf : Tws w f) (hg : Tws w g) (hl : f.length ≤ 200) (hl2 : g.length ≤ 200) (e : f = firstsT f) (e2 : g = firstsT g) : eitherS f g = (firstsT (f ++ g), 0) := by unfold eitherS; rw [if_pos (hf.front hg (Tws.nil w) hl hl2 (by simp) e e2)]
theorem bothS_tw {w : Nat} {f g : List Tm} (hf : Tws w f) (hg : Tws w g) (hl : f.length ≤ 200) (hl2 : g.length ≤ 200) (e : f = firstsT f) (e2 : g = firstsT g) : bothS f g = (firstsT (joinsT f g), 0) := by unfold bothS; rw [if_pos (hf.front hg (Tws.nil w) hl hl2 (by simp) e e2)]
theorem past_joins {w : Nat} {f g : List Tm} (hf : Wid w f) (hg : Wid w g) {t : Tm} (ht : t.length = w) : pastT (joinsT f g) t = (pastT f t && pastT g t) := by
  rw [Bool.eq_iff_iff, Bool.and_eq_true, pastT_iff, pastT_iff, pastT_iff]
  constructor
  · rintro ⟨o, ho, hl⟩
    obtain ⟨y, hy, hx2⟩ := List.mem_flatMap.1 ho
    obtain ⟨z, hz, rfl⟩ := List.mem_map.1 hx2
    have h := (join_le ((hf y hy).trans (hg z hz).symm) ((hg z hz).trans ht.symm)).1 hl
    exact ⟨⟨y, hy, h.1⟩, ⟨z, hz, h.2⟩⟩
  · rintro ⟨⟨y, hy, h1⟩, ⟨z, hz, h2⟩⟩
    exact ⟨tjoin y z, List.mem_flatMap.2 ⟨y, hy, List.mem_map.2 ⟨z, hz, rfl⟩⟩, (join_le ((hf y hy).trans (hg z hz).symm) ((hg z hz).trans ht.symm)).2 ⟨h1, h2⟩⟩
theorem past_app (f g : List Tm) (t : Tm) : pastT (f ++ g) t = (pastT f t || pastT g t) := by unfold pastT; rw [List.any_append]
theorem past_self {f : List Tm} {t : Tm} (h : t ∈ f) : pastT f t = true := pastT_iff.2 ⟨t, h, tle_refl t⟩
theorem wid_joins {w : Nat} {f g : List Tm} (hf : Wid w f) (hg : Wid w g) : Wid w (joinsT f g) := fun x hx => by
  obtain ⟨y, hy, hx2⟩ := List.mem_flatMap.1 hx
  obtain ⟨z, hz, rfl⟩ := List.mem_map.1 hx2
  rw [tjoin_len ((hf y hy).trans (hg z hz).symm), hf y hy]
/-- The laws of two frontiers. -/
theorem absorb {w : Nat} {f g : List Tm} (hf : Fr w f) (hg : Fr w g) : firstsT (joinsT f (firstsT (f ++ g))) = f := by
  have hw : Wid w (f ++ g) := fun x hx => (List.mem_append.1 hx).elim (hf.wid x) (hg.wid x)
  have he := fr_firsts hw
  have hj := wid_joins hf.wid he.wid
  refine (fr_firsts hj).ext hf (fun t ht => ?_) (fun t ht => ?_)
  · have h1 := past_self ht
    have hl := (fr_firsts hj).wid t ht
    rw [past_firsts hj hl, past_joins hf.wid he.wid hl, Bool.and_eq_true] at h1
    exact h1.1
  · have hl := hf.wid t ht
    rw [past_firsts hj hl, past_joins hf.wid he.wid hl, past_firsts hw hl, past_app, past_self ht]; rfl
theorem ahead_either {w : Nat} {f g : List Tm} (hf : Fr w f) (hg : Fr w g) : aheadT f g = decide (firstsT (f ++ g) = f) := by
  have hw : Wid w (f ++ g) := fun x hx => (List.mem_append.1 hx).elim (hf.wid x) (hg.wid x)
  rw [Bool.eq_iff_iff, decide_eq_true_eq]
  unfold aheadT
  rw [List.all_eq_true]
  constructor
  · intro h
    refine (fr_firsts hw).ext hf (fun t ht => ?_) (fun t ht => ?_)
    · rcases List.mem_append.1 (mem_outT.1 ht).1 with h1 | h1
      · exact past_self h1
      · exact h t h1
    · rw [past_firsts hw (hf.wid t ht), past_app, past_self ht]; rfl
  · intro e t ht
    have hl := hg.wid t ht
    have h1 : pastT (firstsT (f ++ g)) t = true := by rw [past_firsts hw hl, past_app, past_self ht, Bool.or_true]
    rw [e] at h1; exact h1
theorem ahead_both {w : Nat} {f g : List Tm} (hf : Fr w f) (hg : Fr w g) : aheadT f g = decide (firstsT (joinsT f g) = g) := by
  have hj := wid_joins hf.wid hg.wid
  rw [Bool.eq_iff_iff, decide_eq_true_eq]
  unfold aheadT
  rw [List.all_eq_true]
  constructor
  · intro h
    refine (fr_firsts hj).ext hg (fun t ht => ?_) (fun t ht => ?_)
    · have h1 := past_self ht
      have hl := (fr_firsts hj).wid t ht
      rw [past_firsts hj hl, past_joins hf.wid hg.wid hl, Bool.and_eq_true] at h1
      exact h1.2
    · have hl := hg.wid t ht
      rw [past_firsts hj hl, past_joins hf.wid hg.wid hl, past_self ht, h t ht]; rfl
  · intro e t ht
    have hl := hg.wid t ht
    have h1 : pastT (firstsT (joinsT f g)) t = true := by rw [e]; exact past_self ht
    rw [past_firsts hj hl, past_joins hf.wid hg.wid hl, Bool.and_eq_true] at h1
    exact h1.1
/-! Where one stands. -/
theorem le_stands {w : Nat} {f : List Tm} (hn : f ≠ []) (hf : Wid w f) {t c : Tm} (ht : t.length = w) (hc : c.length = w) : tle c (standsT f t) = true ↔ ∀ o ∈ f, tle c (tjoin o t) = true := by
  cases f with
  | nil => exact absurd rfl hn
  | cons o r =>
    have ho := hf o List.mem_cons_self
    have hr : Wid w r := fun y hy => hf y (List.mem_cons_of_mem _ hy)
    have e : standsT (o :: r) t = (r.map fun x => tjoin x t).foldl tmeet (tjoin o t) := by
      show r.foldl (fun s o => tmeet s (tjoin o t)) (tjoin o t) = _
      rw [List.foldl_map]
    rw [e, le_fold hc _ _ (fun y hy => by obtain ⟨z, hz, rfl⟩ := List.mem_map.1 hy; rw [tjoin_len ((hr z hz).trans ht.symm), hr z hz]) (by rw [tjoin_len (ho.trans ht.symm), ho])]
    simp
theorem stands_le {w : Nat} {f : List Tm} (hn : f ≠ []) (hf : Wid w f) {t c : Tm} (ht : t.length = w) (hc : c.length = w) : tle (standsT f t) c = true ↔ tle (meetT f) c = true ∧ tle t c = true := by
  rw [stands_eq hn, join_le ((meetT_len hn hf).trans ht.symm) (ht.trans hc.symm)]
theorem meetT_le {w : Nat} {f : List Tm} (hn : f ≠ []) (hf : Wid w f) {o : Tm} (ho : o ∈ f) : tle (meetT f) o = true := (le_meetT hn hf (meetT_len hn hf)).1 (tle_refl _) o ho
end Go.Proofs.YteimjjpigohnhaaGreat
/- Lists of times that the laws make and compare. -/
namespace Go.Proofs.YteimjjpigohnhaaGreat
open Go.Sl
variable {S : Nat → Prop} {w0 : World} {η : Heap}
theorem times_ll {a : Option Addr} {l : List Int} {c wide most : Nat} (hx : Row S w0 [] a (ints l)) (hl : l.length < 2 ^ 63) (hw : ∀ x ∈ l, W64 x) (hwd : wide < 1000) (hm : most < 1000) : Rt Tryz.prog 58 [.slice a l.length c, .int .i64 (wide : Int), .int .i64 (most : Int)].toArray S w0 η (fun v η' => ∃ a' cap ps segs, v = .slice a' ps.length cap ∧ tx ps = tmsI l wide most ∧ LL S w0 segs a' ps ∧ η' = segs ++ η) := by
  refine (times_fn (c := c) hx hl hw hwd hm).mono ?_
  rintro v η' ⟨a', cap, outs, og, rfl, hol, hto, rfl⟩
  exact ⟨a', cap, outs.map (·.1), og :: outs.reverse.map (·.2), by rw [List.length_map], by rw [← hto]; simp [tx, List.map_map, Function.comp_def], hol.ll List.mem_cons_self (fun t ht => List.mem_cons_of_mem _ (List.mem_map_of_mem (List.mem_reverse.2 ht))), rfl⟩
theorem among_true {a b : Option Addr} {ps qs : List HL} {c d : Nat} (hx : LL S w0 η a ps) (hy : LL S w0 η b qs) (hl : ps.length < 2 ^ 63) (hl2 : qs.length < 2 ^ 63) (hlx : ∀ p ∈ ps, p.2.1.length < 2 ^ 63) (hs : ∀ x ∈ tx ps, x ∈ tx qs) : Rt Tryz.prog 51 [.slice a ps.length c, .slice b qs.length d].toArray S w0 η (fun v η' => v = .bool true ∧ η' = η) := by
  have h := among_fn (c := c) (d := d) hx hy hl hl2 hlx
  have e : ((tx ps).all fun x => (tx qs).any fun y => decide (x = y)) = true := by
    rw [List.all_eq_true]
    intro x hx
    rw [List.any_eq_true]
    exact ⟨x, hs x hx, decide_eq_true rfl⟩
  rw [e] at h; exact h
theorem apart_true {a : Option Addr} {ps : List HL} {c w : Nat} (hx : LL S w0 η a ps) (hl : ps.length < 65536) (hw : ∀ p ∈ ps, p.2.1.length = w) (hw4 : w ≤ 4) (he : tx ps = firstsT (tx ps)) : Rt Tryz.prog 52 [.slice a ps.length c].toArray S w0 η (fun v η' => v = .bool true ∧ ∃ segs, η' = segs ++ η) := by
  have h := apart_fn (c := c) hx hl hw hw4
  rw [decide_eq_true he] at h; exact h
theorem tx_length {ps : List HL} {L : List Tm} (h : tx ps = L) : ps.length = L.length := by rw [← h, tx_len]
theorem tx_wid {ps : List HL} {L : List Tm} {w : Nat} (h : tx ps = L) (hw : Wid w L) : ∀ p ∈ ps, p.2.1.length = w := wid_tx (h ▸ hw)
theorem Tws.good {w : Nat} {L : List Tm} (h : Tws w L) (hw4 : w ≤ 4) (hl : L.length ≤ 200) : GoodL L := ⟨by omega, fun x hx => by rw [(h x hx).1]; exact hw4⟩
theorem wide_nat (z : Int) : ∃ w : Nat, 1 + turnI z 4 = (w : Int) ∧ 1 ≤ w ∧ w ≤ 4 := by
  have h := turnI_range z (m := 4) (by decide)
  exact ⟨(1 + turnI z 4).toNat, by omega, by omega, by omega⟩
end Go.Proofs.YteimjjpigohnhaaGreat
/- Meets and joins of three times. -/
namespace Go.Proofs.YteimjjpigohnhaaGreat
open Go.Sl
variable {S : Nat → Prop} {w0 : World} {η : Heap}
theorem meet_assoc : ∀ a b c : Tm, tmeet (tmeet a b) c = tmeet a (tmeet b c)
  | [], _, _ => by simp [tmeet]
  | _ :: _, [], _ => by simp [tmeet]
  | _ :: _, _ :: _, [] => by simp [tmeet]
  | x :: a, y :: b, z :: c => by
    have := meet_assoc a b c
    simp only [tmeet, List.zipWith_cons_cons] at this ⊢
    rw [this]; congr 1; omega
theorem join_assoc : ∀ a b c : Tm, tjoin (tjoin a b) c = tjoin a (tjoin b c)
  | [], _, _ => by simp [tjoin]
  | _ :: _, [], _ => by simp [tjoin]
  | _ :: _, _ :: _, [] => by simp [tjoin]
  | x :: a, y :: b, z :: c => by
    have := join_assoc a b c
    simp only [tjoin, List.zipWith_cons_cons] at this ⊢
    rw [this]; congr 1; omega
theorem join_dist : ∀ a b c : Tm, tjoin a (tmeet b c) = tmeet (tjoin a b) (tjoin a c)
  | [], _, _ => by simp [tmeet, tjoin]
  | _ :: _, [], _ => by simp [tmeet, tjoin]
  | _ :: _, _ :: _, [] => by simp [tmeet, tjoin]
  | x :: a, y :: b, z :: c => by
    have := join_dist a b c
    simp only [tmeet, tjoin, List.zipWith_cons_cons] at this ⊢
    rw [this]; congr 1; omega
theorem meet_idem : ∀ a : Tm, tmeet a a = a
  | [] => rfl
  | x :: a => by
    have := meet_idem a
    simp only [tmeet, List.zipWith_cons_cons] at this ⊢
    rw [this]; congr 1; omega
theorem join_idem : ∀ a : Tm, tjoin a a = a
  | [] => rfl
  | x :: a => by
    have := join_idem a
    simp only [tjoin, List.zipWith_cons_cons] at this ⊢
    rw [this]; congr 1; omega
theorem meet_absorb : ∀ {a b : Tm}, a.length = b.length → tmeet a (tjoin a b) = a
  | [], [], _ => rfl
  | [], _ :: _, h => by simp at h
  | _ :: _, [], h => by simp at h
  | x :: a, y :: b, h => by
    have := meet_absorb (a := a) (b := b) (by simpa using h)
    simp only [tmeet, tjoin, List.zipWith_cons_cons] at this ⊢
    rw [this]; congr 1; omega
theorem join_absorb : ∀ {a b : Tm}, a.length = b.length → tjoin a (tmeet a b) = a
  | [], [], _ => rfl
  | [], _ :: _, h => by simp at h
  | _ :: _, [], h => by simp at h
  | x :: a, y :: b, h => by
    have := join_absorb (a := a) (b := b) (by simpa using h)
    simp only [tmeet, tjoin, List.zipWith_cons_cons] at this ⊢
    rw [this]; congr 1; omega
theorem tle_meet : ∀ {a b : Tm}, a.length = b.length → tle a b = decide (tmeet a b = a)
  | [], [], _ => rfl
  | [], _ :: _, h => by simp at h
  | _ :: _, [], h => by simp at h
  | x :: a, y :: b, h => by
    have := tle_meet (a := a) (b := b) (by simpa using h)
    rw [Bool.eq_iff_iff, decide_eq_true_eq] at this ⊢
    simp only [tle, tmeet, List.zipWith_cons_cons, Bool.and_eq_true, decide_eq_true_eq, List.cons.injEq] at this ⊢
    rw [this]
    constructor
    · rintro ⟨h1, h2⟩; exact ⟨by omega, h2⟩
    · rintro ⟨h1, h2⟩; exact ⟨by omega, h2⟩
theorem tle_join : ∀ {a b : Tm}, a.length = b.length → tle a b = decide (tjoin a b = b)
  | [], [], _ => rfl
  | [], _ :: _, h => by simp at h
  | _ :: _, [], h => by simp at h
  | x :: a, y :: b, h => by
    have := tle_join (a := a) (b := b) (by simpa using h)
    rw [Bool.eq_iff_iff, decide_eq_true_eq] at this ⊢
    simp only [tle, tjoin, List.zipWith_cons_cons, Bool.and_eq_true, decide_eq_true_eq, List.cons.injEq] at this ⊢
    rw [this]
    constructor
    · rintro ⟨h1, h2⟩; exact ⟨by omega, h2⟩
    · rintro ⟨h1, h2⟩; exact ⟨by omega, h2⟩
theorem tle_back {a b : Tm} (hl : a.length = b.length) (h : tle a b = true) : tle b a = decide (a = b) := by
  rw [Bool.eq_iff_iff, decide_eq_true_eq]
  exact ⟨fun h2 => tle_anti hl h h2, fun h2 => by rw [h2]; exact tle_refl _⟩
/-! The law's functions at times that fit. -/
theorem Tw.l4 {w : Nat} {t : Tm} (h : Tw w t) : w ≤ 4 := by have := (isT_iff.1 h.2).1.2; rw [h.1] at this; exact this
theorem meet_tw {a b : Option Addr} {xs ys : Tm} {c d w : Nat} (hx : Row S w0 [] a (ints xs)) (hy : Row S w0 [] b (ints ys)) (h1 : Tw w xs) (h2 : Tw w ys) : Rt Tryz.prog 56 [.slice a w c, .slice b w d].toArray S w0 η (fun v η' => ∃ a' cap segs, v = .slice a' w cap ∧ Row S w0 segs a' (ints (tmeet xs ys)) ∧ η' = segs ++ η) := by
  have l := h1.l4
  have h := lawmeet_fn (η := η) (c := c) (d := d) hx hy (by have := h1.1; omega) (by have := h2.1; omega)
  rw [meetS_tw h1 h2, h1.1, h2.1] at h
  have e : (tmeet xs ys).length = w := (h1.meet h2).1
  simpa only [e] using h
theorem join_tw {a b : Option Addr} {xs ys : Tm} {c d w : Nat} (hx : Row S w0 [] a (ints xs)) (hy : Row S w0 [] b (ints ys)) (h1 : Tw w xs) (h2 : Tw w ys) : Rt Tryz.prog 57 [.slice a w c, .slice b w d].toArray S w0 η (fun v η' => ∃ a' cap segs, v = .slice a' w cap ∧ Row S w0 segs a' (ints (tjoin xs ys)) ∧ η' = segs ++ η) := by
  have l := h1.l4
  have h := lawjoin_fn (η := η) (c := c) (d := d) hx hy (by have := h1.1; omega) (by have := h2.1; omega)
  rw [joinS_tw h1 h2, h1.1, h2.1] at h
  have e : (tjoin xs ys).length = w := (h1.join h2).1
  simpa only [e] using h
theorem less_tw {a b : Option Addr} {xs ys : Tm} {c d w : Nat} (hx : Row S w0 [] a (ints xs)) (hy : Row S w0 [] b (ints ys)) (h1 : Tw w xs) (h2 : Tw w ys) : Rt Tryz.prog 19 [.slice a w c, .slice b w d].toArray S w0 η (fun v η' => v = .bool (tle xs ys) ∧ ∃ segs, η' = segs ++ η) := by
  have l := h1.l4
  have h := lawless_fn (η := η) (c := c) (d := d) hx hy (by have := h1.1; omega) (by have := h2.1; omega)
  rw [lessB_tw h1 h2, h1.1, h2.1] at h
  exact h
theorem Eq_tw {a b : Option Addr} {xs ys : Tm} {c d w : Nat} (hx : Row S w0 η a (ints xs)) (hy : Row S w0 η b (ints ys)) (h1 : xs.length = w) (h2 : ys.length = w) (hw : w ≤ 4) : Rt Tryz.prog 18 [.slice a w c, .slice b w d].toArray S w0 η (fun v η' => v = .bool (decide (xs = ys)) ∧ η' = η) := by
  have h := Equal_fn (ca := c) (cb := d) hx hy (by omega)
  rw [h1, h2] at h; exact h
theorem EqT_tw {a b : Option Addr} {xs ys : Tm} {c d w : Nat} (hx : Row S w0 η a (ints xs)) (hy : Row S w0 η b (ints ys)) (h1 : xs.length = w) (h2 : ys.length = w) (hw : w ≤ 4) (he : xs = ys) : Rt Tryz.prog 18 [.slice a w c, .slice b w d].toArray S w0 η (fun v η' => v = .bool true ∧ η' = η) := by
  have h := Eq_tw (c := c) (d := d) hx hy h1 h2 hw
  rw [decide_eq_true he] at h; exact h
end Go.Proofs.YteimjjpigohnhaaGreat
/- Where one stands, of times that numbers make. -/
namespace Go.Proofs.YteimjjpigohnhaaGreat
open Go.Sl
variable {S : Nat → Prop} {w0 : World} {η : Heap}
set_option maxRecDepth 8000
theorem stands_tw {w : Nat} {f : List Tm} (hn : f ≠ []) (hf : Tws w f) {t : Tm} (ht : Tw w t) : Tw w (standsT f t) := by
  cases f with
  | nil => exact absurd rfl hn
  | cons o r =>
    have key : ∀ (r : List Tm) (s : Tm), Tws w r → Tw w s → Tw w (r.foldl (fun s o => tmeet s (tjoin o t)) s) := by
      intro r
      induction r with
      | nil => intro s _ hs; exact hs
      | cons x r ih => intro s hr hs; exact ih _ (fun y hy => hr y (List.mem_cons_of_mem _ hy)) (hs.meet ((hr x List.mem_cons_self).join ht))
    exact key r _ (fun y hy => hf y (List.mem_cons_of_mem _ hy)) ((hf o List.mem_cons_self).join ht)
theorem stands_ge {w : Nat} {f : List Tm} (hn : f ≠ []) (hf : Wid w f) {t : Tm} (ht : t.length = w) : tle t (standsT f t) = true :=
  ((stands_le hn hf ht (stands_len hf ht)).1 (tle_refl _)).2
theorem stands_again {w : Nat} {f : List Tm} (hn : f ≠ []) (hf : Wid w f) {t : Tm} (ht : t.length = w) : standsT f (standsT f t) = standsT f t := by
  have hl := stands_len hf ht
  refine tle_ext (stands_len hf hl) hl fun c hc => ?_
  rw [stands_le hn hf hl hc, stands_le hn hf ht hc]
  exact ⟨fun h => h.2, fun h => ⟨h.1, h⟩⟩
/-- Alike: none of the two is changed more by the one than by the other. -/
theorem stands_alike {w : Nat} {f : List Tm} (hn : f ≠ []) (hf : Wid w f) {a b : Tm} (ha : a.length = w) (hb : b.length = w) : (f.all fun o => tle b (tjoin o a) && tle a (tjoin o b)) = decide (standsT f a = standsT f b) := by
  have la := stands_len hf ha; have lb := stands_len hf hb
  rw [Bool.eq_iff_iff, List.all_eq_true, decide_eq_true_eq]
  constructor
  · intro h
    have h1 : tle b (standsT f a) = true := (le_stands hn hf ha hb).2 fun o ho => by have := h o ho; rw [Bool.and_eq_true] at this; exact this.1
    have h2 : tle a (standsT f b) = true := (le_stands hn hf hb ha).2 fun o ho => by have := h o ho; rw [Bool.and_eq_true] at this; exact this.2
    refine tle_anti (la.trans lb.symm) ((stands_le hn hf ha lb).2 ⟨?_, h2⟩) ((stands_le hn hf hb la).2 ⟨?_, h1⟩)
    · exact ((stands_le hn hf hb lb).1 (tle_refl _)).1
    · exact ((stands_le hn hf ha la).1 (tle_refl _)).1
  · intro e o ho
    rw [Bool.and_eq_true]
    exact ⟨(le_stands hn hf ha hb).1 (by rw [e]; exact stands_ge hn hf hb) o ho, (le_stands hn hf hb ha).1 (by rw [← e]; exact stands_ge hn hf ha) o ho⟩
/-- Beyond a frontier, a time and where it stands are at the same times or before them. -/
theorem stands_past {w : Nat} {f : List Tm} (hn : f ≠ []) (hf : Wid w f) {a t : Tm} (ha : a.length = w) (ht : t.length = w) (hp : pastT f t = true) : tle a t = tle (standsT f a) t := by
  obtain ⟨o, ho, hl⟩ := pastT_iff.1 hp
  rw [Bool.eq_iff_iff, stands_le hn hf ha ht]
  exact ⟨fun h => ⟨tle_trans ((meetT_len hn hf).trans (hf o ho).symm) ((hf o ho).trans ht.symm) (meetT_le hn hf ho) hl, h⟩, fun h => h.2⟩
/-- Later frontiers see no more of a time than of where it stands. -/
theorem stands_later {w : Nat} {f g : List Tm} (hn : f ≠ []) (hf : Wid w f) (hn2 : g ≠ []) (hg : Wid w g) (hp : ∀ t ∈ g, pastT f t = true) {a : Tm} (ha : a.length = w) : standsT g a = standsT g (standsT f a) := by
  have lx := stands_len hf ha
  refine tle_ext (stands_len hg ha) (stands_len hg lx) fun c hc => ?_
  rw [stands_le hn2 hg ha hc, stands_le hn2 hg lx hc, stands_le hn hf ha hc]
  have lm := meetT_len hn hf; have lm2 := meetT_len hn2 hg
  constructor
  · rintro ⟨h1, h2⟩
    refine ⟨h1, tle_trans (lm.trans lm2.symm) (lm2.trans hc.symm) ((le_meetT hn2 hg lm).2 fun t ht => ?_) h1, h2⟩
    obtain ⟨o, ho, hl⟩ := pastT_iff.1 (hp t ht)
    exact tle_trans (lm.trans (hf o ho).symm) ((hf o ho).trans (hg t ht).symm) (meetT_le hn hf ho) hl
  · rintro ⟨h1, _, h2⟩; exact ⟨h1, h2⟩
theorem firsts_ne {w : Nat} {l : List Tm} (hw : Wid w l) (hn : l ≠ []) : firstsT l ≠ [] := by
  cases l with
  | nil => exact absurd rfl hn
  | cons t r =>
    obtain ⟨o, ho, _⟩ := firsts_low hw (t := t) List.mem_cons_self
    intro e; rw [e] at ho; cases ho
theorem beyond_tw {a b : Option Addr} {ps : List HL} {F : List Tm} {t : Tm} {c d w : Nat} (hx : LL S w0 [] a ps) (ht : Row S w0 [] b (ints t)) (e : tx ps = F) (hF : Tws w F) (hfr : Fr w F) (hT : Tw w t) (hl : F.length ≤ 200) : Rt Tryz.prog 27 [.slice a ps.length c, .slice b w d].toArray S w0 η (fun v η' => v = .tuple #[.bool (pastT F t), .int .i64 0] ∧ ∃ segs, η' = segs ++ η) := by
  have l4 := hT.l4
  have hpl := tx_length e
  have h := Beyond_prog (η := η) (c := c) (d := d) hx ht (by omega) (fun p hp => by have := tx_wid e hF.wid p hp; omega) (by have := hT.1; omega)
  rw [hT.1] at h
  refine h.mono ?_
  intro v η' h
  exact h.lit (by rw [e]; exact beyondS_tw hF hT hl hfr.firsts.symm)
theorem seen_tw {a b : Option Addr} {ps : List HL} {F : List Tm} {t : Tm} {c d w : Nat} (hx : LL S w0 [] a ps) (ht : Row S w0 [] b (ints t)) (e : tx ps = F) (hF : Tws w F) (hfr : Fr w F) (hn : F ≠ []) (hT : Tw w t) (hl : F.length ≤ 200) : Rt Tryz.prog 28 [.slice a ps.length c, .slice b w d].toArray S w0 η (fun v η' => ∃ a' cap segs, v = .tuple #[.slice a' w cap, .int .i64 0] ∧ Row S w0 segs a' (ints (standsT F t)) ∧ η' = segs ++ η) := by
  have l4 := hT.l4
  have hpl := tx_length e
  have h := Seen_prog (η := η) (c := c) (d := d) hx ht (by omega) (fun p hp => by have := tx_wid e hF.wid p hp; omega) (by have := hT.1; omega)
  rw [hT.1] at h
  refine h.mono ?_
  intro v η' h
  obtain ⟨a', cap, segs, h1, h2, h3⟩ := h.lit (L := standsT F t) (k := 0) (by rw [e]; exact seenS_tw hF hT hl hfr.firsts.symm hn)
  rw [stands_len hF.wid hT.1] at h1
  exact ⟨a', cap, segs, h1, h2, h3⟩
theorem time_tw {n : Int} {k : Nat} (hn : W64 n) (h1 : 1 ≤ k) (h4 : k ≤ 4) : Rt Tryz.prog 55 [.int .i64 n, .int .i64 (k : Int)].toArray S w0 η (fun v η' => ∃ a' cap segs, v = .slice a' k cap ∧ Row S w0 segs a' (ints (tmI k n)) ∧ η' = segs ++ η) := by
  refine (time_fn hn (by omega)).mono ?_
  rintro v η' ⟨a', cap, seg, rfl, ho, rfl⟩
  exact ⟨a', cap, [seg], rfl, ho.row List.mem_cons_self, rfl⟩
end Go.Proofs.YteimjjpigohnhaaGreat
/- The law of where one stands. -/
namespace Go.Proofs.YteimjjpigohnhaaGreat
open Go.Sl
variable {S : Nat → Prop} {w0 : World} {η : Heap}
set_option maxRecDepth 8000
theorem Firsts_own {ηr : Heap} {a : Option Addr} {ps : List HL} {c : Nat} {L : List Tm} (hx : LL S w0 ηr a ps) (hl : ps.length < 2 ^ 63) (hlx : ∀ p ∈ ps, p.2.1.length < 2 ^ 63) (e : firstsS (tx ps) = (L, 0)) : Rt Tryz.prog 25 [.slice a ps.length c].toArray S w0 ηr (fun v η' => ∃ a' cap qs segs, v = .tuple #[.slice a' qs.length cap, .int .i64 0] ∧ tx qs = L ∧ LL S w0 η' a' qs ∧ η' = ηr ++ segs) :=
  Rt.frame ηr (List.append_nil ηr).symm fun S' w1 hz hb => (Firsts_prog (η := []) (c := c) (hx.frz hz) hl hlx).mono fun v η' h => by
    obtain ⟨a', cap, qs, segs, h1, h2, h3, h4⟩ := h.lit e
    rw [List.append_nil] at h4
    subst h4
    exact ⟨a', cap, qs, η', h1, h2, h3.thaw hb, rfl⟩
set_option maxHeartbeats 2000000 in
theorem OrderSeen_fn {a e : Option Addr} {xs ks : List Int} {c g : Nat} {n0 n1 wide : Int} (hx : Row S w0 [] a (ints xs)) (hk : Row S w0 [] e (ints ks)) (hl : xs.length < 2 ^ 63) (_hl3 : ks.length < 2 ^ 63) (hw : Wd xs) (hkw : Wd ks) (hn0 : W64 n0) (hn1 : W64 n1) (_ : W64 wide) :
    Rt Tryz.prog 12 [.slice a xs.length c, .agg #[.int .i64 n0, .int .i64 n1], .int .i64 wide, .slice e ks.length g].toArray S w0 [] (fun v _ => v = .bool true) := by
  have hF := open_wide
  refine Rt.of (fn := Tryz.f12) Tryz.func12 rfl rfl ?_
  refine T.seq ?_
  refine T.region ?_
  refine TL.box hF rfl rfl (fun b5 => ?_)
  refine TL.assign hF rfl rfl ?_
  refine TL.nil ?_
  refine TQ.then_n ?_
  refine T.seq ?_
  refine T.region ?_
  refine TL.move hF rfl rfl ?_
  refine TL.callV hF (Turn_fn wide (m := 4) (by decide)) rfl rfl ?_
  have hb := Back.refl S w0
  obtain ⟨w, hwe, hw1, hw4⟩ := wide_nat wide
  refine TL.addK hF rfl rfl (r := (w : Int)) (by rw [hwe]; exact wrap_i64 (by omega) (by omega)) rfl ?_
  refine TL.assign hF rfl rfl ?_
  refine TL.nil ?_
  refine TQ.then_n ?_
  refine T.seq ?_
  refine T.drawH 17 mixed ?_
  refine DH.pure (i := 0) [(0, _, none)] rfl rfl rfl rfl ⟨⟨rfl, by kernel_rfl⟩, trivial⟩ (fun _ ext => TL.move hF rfl rfl TL.fin) ?_
  refine DH.pure (i := 1) [(9, _, none)] rfl rfl rfl rfl ⟨⟨rfl, by kernel_rfl⟩, trivial⟩ (fun _ ext => TL.move hF rfl rfl TL.fin) ?_
  refine DH.pure (i := 3) [(5, _, none)] rfl rfl rfl rfl ⟨⟨rfl, by kernel_rfl⟩, trivial⟩ (fun _ ext => TL.indexAddrA hF rfl rfl (by omega) (by omega) rfl TL.fin) ?_
  refine DH.read (i := 4) [(39, _, some 3)] rfl rfl rfl rfl ⟨⟨rfl, rfl, rfl⟩, trivial⟩ (fun ext => TL.load hF rfl (own_mem (cs := #[.int .i64 n0, .int .i64 n1]) (e := 60) (fz := (0, 0)) (by simp [Value.cells]) rfl) rfl TL.fin) ?_
  refine DH.pure (i := 5) [(5, _, none)] rfl rfl rfl rfl ⟨⟨rfl, by kernel_rfl⟩, trivial⟩ (fun _ ext => TL.indexAddrA hF rfl rfl (by omega) (by omega) rfl TL.fin) ?_
  refine DH.read (i := 6) [(41, _, some 5)] rfl rfl rfl rfl ⟨⟨rfl, rfl, rfl⟩, trivial⟩ (fun ext => TL.load hF rfl (own_mem (cs := #[.int .i64 n0, .int .i64 n1]) (e := 60) (fz := (0, 0)) (by simp [Value.cells]) rfl) rfl TL.fin) ?_
  refine DH.pure (i := 7) [(40, _, some 4), (42, _, some 6)] rfl rfl rfl rfl ⟨⟨rfl, rfl, rfl⟩, ⟨rfl, rfl, rfl⟩, trivial⟩ (fun _ ext => TL.addK hF rfl rfl (r := wr (n0 + n1)) (wrap_wr _) rfl TL.fin) ?_
  refine DH.pure (i := 8) [(9, _, none)] rfl rfl rfl rfl ⟨⟨rfl, by kernel_rfl⟩, trivial⟩ (fun _ ext => TL.move hF rfl rfl TL.fin) ?_
  refine DH.k1 (by kernel_rfl) (by kernel_rfl) (by kernel_rfl) (by kernel_rfl) (HBK.mk (h := 2) [4, 6] [(36, _, some 0), (37, _, some 1)] rfl rfl rfl ⟨⟨rfl, rfl, rfl⟩, ⟨rfl, rfl, rfl⟩, trivial⟩ (by kernel_rfl) (fun ext => ?_))
  refine TL.call hF (times_fn (most := 7) hx hl hw (by omega) (by omega)) rfl rfl ?_
  rintro _ _ ⟨a8, c8, outs, og, rfl, hol, hto, rfl⟩
  have htl := congrArg List.length hto
  have htk := tmsI_len xs w 7
  rw [List.length_map] at htl
  refine TL.finK ⟨⟨_, rfl, _, _, [(39, _, some 3)], rfl, rfl, ⟨⟨rfl, rfl, rfl⟩, trivial⟩, fun ext => TL.load hF rfl (own_mem (cs := #[.int .i64 n0, .int .i64 n1]) (e := 60) (fz := (0, 0)) (by simp [Value.cells]) rfl) rfl TL.fin⟩, ⟨_, rfl, _, _, [(41, _, some 5)], rfl, rfl, ⟨⟨rfl, rfl, rfl⟩, trivial⟩, fun ext => TL.load hF rfl (own_mem (cs := #[.int .i64 n0, .int .i64 n1]) (e := 60) (fz := (0, 0)) (by simp [Value.cells]) rfl) rfl TL.fin⟩, trivial⟩ ?_
  refine DH.heavy 9 [(43, _, some 7), (44, _, some 8)] (by kernel_rfl) (by kernel_rfl) (by kernel_rfl) (by kernel_rfl) rfl rfl rfl rfl ⟨⟨rfl, rfl, rfl⟩, ⟨rfl, rfl, rfl⟩, trivial⟩ (by kernel_rfl) (fun ext => ?_)
  refine TL.call hF (time_fn (n := wr (n0 + n1)) (wr_range _) (by omega)) rfl rfl ?_
  rintro _ _ ⟨ua, uc, us, rfl, hu, rfl⟩
  refine TL.finD ?_
  refine DH.heavy 10 [(45, _, some 9)] (by kernel_rfl) (by kernel_rfl) (by kernel_rfl) (by kernel_rfl) rfl rfl rfl rfl ⟨⟨rfl, rfl, rfl⟩, trivial⟩ (by kernel_rfl) (fun ext => ?_)
  refine TL.buildSlice hF rfl (cs := #[.slice ua w uc]) (e := 22) (fun w => by kernel_rfl) rfl (fun b46 => ?_)
  refine TL.finD ?_
  refine DH.heavy 11 [(38, _, some 2), (46, _, some 10)] (by kernel_rfl) (by kernel_rfl) (by kernel_rfl) (by kernel_rfl) rfl rfl rfl rfl ⟨⟨rfl, rfl, rfl⟩, ⟨rfl, rfl, rfl⟩, trivial⟩ (by kernel_rfl) (fun ext => ?_)
  refine TL.append hF 2 rfl rfl rfl hol.o (row_own (cs := [.slice ua w uc]) (e := 22) (by simp)).src rfl rfl (by simp [Value.oneCell']) (by omega) (by omega) rfl (fun a9 c9 s9 ho9 => ?_)
  have e5 : hc ((ua, tmI w (wr (n0 + n1)), uc) : HL) = .slice ua w uc := by simp only [hc]; rw [tmI_len]
  have e6 : (outs.map (·.1)).map hc ++ [.slice ua w uc] = (outs.map (·.1) ++ [((ua, tmI w (wr (n0 + n1)), uc) : HL)]).map hc := by rw [List.map_append, ← e5]; rfl
  have e7 : outs.length + 1 = (outs.map (·.1) ++ [((ua, tmI w (wr (n0 + n1)), uc) : HL)]).length := by simp
  have e8 : outs.map (fun t => hc t.1) = (outs.map (·.1)).map hc := by simp [List.map_map, Function.comp_def]
  have ho9 : OSl 22 1 (.slice a9 (outs.length + 1) c9) (outs.length + 1) ((outs.map (·.1) ++ [((ua, tmI w (wr (n0 + n1)), uc) : HL)]).map hc) s9 := by first | (rw [← e6]; exact ho9) | (rw [← e6, ← e8]; exact ho9)
  rw [e7] at ho9 ⊢
  have htx : tx (outs.map (·.1) ++ [((ua, tmI w (wr (n0 + n1)), uc) : HL)]) = (tmsI xs w 7 ++ [tmI w (wr (n0 + n1))]) := by
    rw [tx_append, ← hto]
    simp [tx, List.map_map, Function.comp_def]
  have hT : Tws w (tmsI xs w 7 ++ [tmI w (wr (n0 + n1))]) := (tws_tms hw1 hw4 xs 7).app (Tws.one (tw_tmI hw1 hw4 _))
  have hTl : (tmsI xs w 7 ++ [tmI w (wr (n0 + n1))]).length ≤ 8 := by rw [List.length_append]; simp only [List.length_singleton]; omega
  have hTn : (tmsI xs w 7 ++ [tmI w (wr (n0 + n1))]) ≠ [] := by simp
  have hpl := tx_length htx
  have hpw := tx_wid htx hT.wid
  have hall : ∀ η0 : Heap, s9 ∈ η0 → us ∈ η0 → (∀ t ∈ outs, t.2 ∈ η0) → LL S w0 η0 a9 (outs.map (·.1) ++ [((ua, tmI w (wr (n0 + n1)), uc) : HL)]) := fun η0 h1 h2 h3 => ⟨ho9.row h1, fun p hp => by
    rcases List.mem_append.1 hp with h | h
    · obtain ⟨t, ht, rfl⟩ := List.mem_map.1 h
      exact (hol.i t ht).row (h3 t ht)
    · rw [List.mem_singleton.1 h]
      have hu2 : Row S w0 η0 ua (ints (tmI w (wr (n0 + n1)))) := hu.row h2
      exact hu2⟩
  generalize outs.map (·.1) ++ [((ua, tmI w (wr (n0 + n1)), uc) : HL)] = ps at htx hpl hpw hall ⊢
  generalize (tmsI xs w 7 ++ [tmI w (wr (n0 + n1))]) = L at htx hT hTl hTn hpl hpw ⊢
  refine TL.finD ?_
  refine DH.heavy 12 [(47, _, some 11)] (by kernel_rfl) (by kernel_rfl) (by kernel_rfl) (by kernel_rfl) rfl rfl rfl rfl ⟨⟨rfl, rfl, rfl⟩, trivial⟩ (by kernel_rfl) (fun ext => ?_)
  refine TL.call hF (Firsts_own (hall ([(b46, Obj.cells #[.slice ua w uc] 22 (0, 0))] :: us :: s9 :: (outs.reverse.map (·.2) ++ [[(b5, Obj.cells #[.int .i64 n0, .int .i64 n1] 60 (0, 0))]])) (by simp) (by simp) (fun t ht => by simp only [List.mem_append, List.mem_cons, List.mem_map, List.mem_reverse]; right; right; right; left; exact ⟨t, ht, rfl⟩)) (by omega) (fun p hp => by have := hpw p hp; omega) (show firstsS (tx ps) = ((firstsT L), 0) by rw [htx]; exact firstsS_tw hT (by omega))) rfl rfl ?_
  rintro _ η3 ⟨a10, c10, p10, segs, rfl, t10, h10, hη3⟩
  have hbx : [(b5, Obj.cells #[.int .i64 n0, .int .i64 n1] 60 (0, 0))] ∈ η3 := by rw [hη3]; simp [Value.cells]
  clear hη3
  refine TL.finD ?_
  refine DH.pure (i := 13) [(48, _, some 12)] rfl rfl rfl rfl ⟨⟨rfl, rfl, rfl⟩, trivial⟩ (fun _ ext => TL.move hF rfl rfl TL.fin) ?_
  refine DH.pure (i := 14) [(35, _, some 13)] rfl rfl rfl rfl ⟨⟨rfl, rfl, rfl⟩, trivial⟩ (fun _ ext => TL.extract hF rfl rfl rfl TL.fin) ?_
  refine DH.pure (i := 15) [(35, _, some 13)] rfl rfl rfl rfl ⟨⟨rfl, rfl, rfl⟩, trivial⟩ (fun _ ext => TL.extract hF rfl rfl rfl TL.fin) ?_
  refine DH.pure (i := 16) [(49, _, some 14)] rfl rfl rfl rfl ⟨⟨rfl, rfl, rfl⟩, trivial⟩ (fun _ ext => TL.assign hF rfl rfl TL.fin) ?_
  refine DH.done [(10, _), (50, _), (49, _), (35, _), (48, _), (47, _), (46, _), (45, _), (38, _), (44, _), (43, _), (42, _), (41, _), (40, _), (39, _), (37, _), (36, _)] [_] (by kernel_rfl) (by kernel_rfl) (by kernel_rfl) (by kernel_rfl) rfl rfl ?_
  refine TL.assign hF rfl rfl ?_
  refine TL.nil ?_
  refine TQ.then_n ?_
  refine T.seq ?_
  refine T.freeze η3 (List.append_nil η3).symm (fun S1 w1 hz1 => ?_)
  replace hb := hb.frz hz1
  replace h10 := h10.frz hz1
  have hb0 : At S1 w1 [] ⟨b5, 0, none⟩ (.int .i64 n0) := hz1.get _ _ (own_mem (cs := #[.int .i64 n0, .int .i64 n1]) (e := 60) (fz := (0, 0)) hbx rfl)
  have hb1 : At S1 w1 [] ⟨b5, 1, none⟩ (.int .i64 n1) := hz1.get _ _ (own_mem (cs := #[.int .i64 n0, .int .i64 n1]) (e := 60) (fz := (0, 0)) hbx rfl)
  replace hk := hk.old hz1
  have hFr : Fr w (firstsT L) := fr_firsts hT.wid
  have hFT : Tws w (firstsT L) := hT.firsts
  have hFl : (firstsT L).length ≤ 8 := Nat.le_trans (outT_len _ _) hTl
  have hFn : (firstsT L) ≠ [] := firsts_ne hT.wid hTn
  generalize (firstsT L) = F at t10 hFr hFT hFl hFn
  have hpl10 := tx_length t10
  have hFp : 0 < F.length := List.length_pos_iff.2 hFn
  refine T.drawH 7 mixed ?_
  refine DH.pure (i := 0) [(5, _, none)] rfl rfl rfl rfl ⟨⟨rfl, by kernel_rfl⟩, trivial⟩ (fun _ ext => TL.indexAddrA hF rfl rfl (by omega) (by omega) rfl TL.fin) ?_
  refine DH.read (i := 1) [(51, _, some 0)] rfl rfl rfl rfl ⟨⟨rfl, rfl, rfl⟩, trivial⟩ (fun ext => TL.load hF rfl (hb0.up (by simp)) rfl TL.fin) ?_
  refine DH.pure (i := 2) [(9, _, none)] rfl rfl rfl rfl ⟨⟨rfl, by kernel_rfl⟩, trivial⟩ (fun _ ext => TL.move hF rfl rfl TL.fin) ?_
  refine DH.pure (i := 4) [(5, _, none)] rfl rfl rfl rfl ⟨⟨rfl, by kernel_rfl⟩, trivial⟩ (fun _ ext => TL.indexAddrA hF rfl rfl (by omega) (by omega) rfl TL.fin) ?_
  refine DH.read (i := 5) [(55, _, some 4)] rfl rfl rfl rfl ⟨⟨rfl, rfl, rfl⟩, trivial⟩ (fun ext => TL.load hF rfl (hb1.up (by simp)) rfl TL.fin) ?_
  refine DH.pure (i := 6) [(9, _, none)] rfl rfl rfl rfl ⟨⟨rfl, by kernel_rfl⟩, trivial⟩ (fun _ ext => TL.move hF rfl rfl TL.fin) ?_
  refine DH.k1 (by kernel_rfl) (by kernel_rfl) (by kernel_rfl) (by kernel_rfl) (HBK.mk (h := 3) [5] [(52, _, some 1), (53, _, some 2)] rfl rfl rfl ⟨⟨rfl, rfl, rfl⟩, ⟨rfl, rfl, rfl⟩, trivial⟩ (by kernel_rfl) (fun ext => ?_))
  refine TL.call hF (time_tw hn0 hw1 hw4) rfl rfl ?_
  rintro _ _ ⟨a12, c12, s12, rfl, h12, rfl⟩
  refine TL.finK ⟨⟨_, rfl, _, _, [(55, _, some 4)], rfl, rfl, ⟨⟨rfl, rfl, rfl⟩, trivial⟩, fun ext => TL.load hF rfl (hb1.up (by simp)) rfl TL.fin⟩, trivial⟩ ?_
  refine DH.done [(54, _), (57, _), (56, _), (55, _), (53, _), (52, _), (51, _)] [_, _, _] (by kernel_rfl) (by kernel_rfl) (by kernel_rfl) (by kernel_rfl) rfl rfl ?_
  refine TL.call hF (time_tw hn1 hw1 hw4) rfl rfl ?_
  rintro _ _ ⟨a13, c13, s13, rfl, h13, rfl⟩
  refine TL.assign hF rfl rfl ?_
  refine TL.assign hF rfl rfl ?_
  refine TL.nil ?_
  refine TQ.then_n ?_
  refine T.seq ?_
  refine T.region ?_
  refine TL.move hF rfl rfl ?_
  refine TL.move hF rfl rfl ?_
  refine TL.heap (η' := (s13 ++ s12) ++ []) (by simp) ?_
  refine TL.freeze (s13 ++ s12) rfl (fun S2 w2 hz2 => ?_)
  replace hb := hb.frz hz2
  replace hk := hk.old hz2
  replace h10 := h10.old hz2
  replace h12 := (h12.up (η' := s13 ++ s12) (fun z hz => List.mem_append_right _ hz)).frz hz2
  replace h13 := (h13.up (η' := s13 ++ s12) (fun z hz => List.mem_append_left _ hz)).frz hz2
  have T12 : Tw w (tmI w n0) := tw_tmI hw1 hw4 n0
  have T13 : Tw w (tmI w n1) := tw_tmI hw1 hw4 n1
  generalize tmI w n0 = ta at h12 T12
  generalize tmI w n1 = tb at h13 T13
  refine TL.call hF (seen_tw h10 h12 t10 hFT hFr hFn T12 (by omega)) rfl rfl ?_
  rintro _ _ ⟨a14, c14, segs, rfl, h14, rfl⟩
  refine TL.freeze (segs) rfl (fun S3 w3 hz3 => ?_)
  replace hb := hb.frz hz3
  replace hk := hk.old hz3
  replace h10 := h10.old hz3
  replace h12 := h12.old hz3
  replace h13 := h13.old hz3
  replace h14 := h14.frz hz3
  have T14 := stands_tw hFn hFT T12
  refine TL.move hF rfl rfl ?_
  refine TL.extract hF rfl rfl rfl ?_
  refine TL.extract hF rfl rfl rfl ?_
  refine TL.assign hF rfl rfl ?_
  refine TL.assign hF rfl rfl ?_
  refine TL.nil ?_
  refine TQ.then_n ?_
  refine T.seq ?_
  refine T.region ?_
  refine TL.move hF rfl rfl ?_
  refine TL.move hF rfl rfl ?_
  refine TL.call hF (seen_tw h10 h13 t10 hFT hFr hFn T13 (by omega)) rfl rfl ?_
  rintro _ _ ⟨a16, c16, segs, rfl, h16, rfl⟩
  refine TL.freeze (segs) rfl (fun S4 w4 hz4 => ?_)
  replace hb := hb.frz hz4
  replace hk := hk.old hz4
  replace h10 := h10.old hz4
  replace h12 := h12.old hz4
  replace h13 := h13.old hz4
  replace h14 := h14.old hz4
  replace h16 := h16.frz hz4
  have T16 := stands_tw hFn hFT T13
  refine TL.move hF rfl rfl ?_
  refine TL.extract hF rfl rfl rfl ?_
  refine TL.extract hF rfl rfl rfl ?_
  refine TL.assign hF rfl rfl ?_
  refine TL.assign hF rfl rfl ?_
  refine TL.nil ?_
  refine TQ.then_n ?_
  refine T.seq ?_
  refine T.region ?_
  refine TL.move hF rfl rfl ?_
  refine TL.move hF rfl rfl ?_
  refine TL.call hF (seen_tw h10 h14 t10 hFT hFr hFn T14 (by omega)) rfl rfl ?_
  rintro _ _ ⟨a18, c18, segs, rfl, h18, rfl⟩
  refine TL.freeze (segs) rfl (fun S5 w5 hz5 => ?_)
  replace hb := hb.frz hz5
  replace hk := hk.old hz5
  replace h10 := h10.old hz5
  replace h12 := h12.old hz5
  replace h13 := h13.old hz5
  replace h14 := h14.old hz5
  replace h16 := h16.old hz5
  replace h18 := h18.frz hz5
  rw [stands_again hFn hFT.wid T12.1] at h18
  refine TL.move hF rfl rfl ?_
  refine TL.extract hF rfl rfl rfl ?_
  refine TL.extract hF rfl rfl rfl ?_
  refine TL.assign hF rfl rfl ?_
  refine TL.assign hF rfl rfl ?_
  refine TL.nil ?_
  refine TQ.then_n ?_
  refine T.seq ?_
  refine T.seq ?_
  refine T.region ?_
  refine TL.move hF rfl rfl ?_
  refine TL.bin hF rfl rfl rfl rfl ?_
  refine TL.move hF rfl rfl ?_
  refine TL.on rfl rfl rfl (by simp) ?_
  refine TL.move hF rfl rfl ?_
  refine TL.on rfl rfl rfl (by simp) ?_
  refine TL.bin hF rfl rfl rfl rfl ?_
  refine TL.pickF hF rfl (by simp) rfl rfl ?_
  refine TL.move hF rfl rfl ?_
  refine TL.on rfl rfl rfl (by simp) ?_
  refine TL.move hF rfl rfl ?_
  refine TL.on rfl rfl rfl (by simp) ?_
  refine TL.bin hF rfl rfl rfl rfl ?_
  refine TL.pickF hF rfl (by simp) rfl rfl ?_
  refine TL.move hF rfl rfl ?_
  refine TL.on rfl rfl rfl (by simp) ?_
  refine TL.move hF rfl rfl ?_
  refine TL.on rfl rfl rfl (by simp) ?_
  refine TL.bin hF rfl rfl rfl rfl ?_
  refine TL.pickF hF rfl (by simp) rfl rfl ?_
  refine TL.move hF rfl rfl ?_
  refine TL.on rfl rfl rfl (by simp) ?_
  refine TL.move hF rfl rfl ?_
  refine TL.on rfl rfl rfl (by simp) ?_
  refine TL.len hF rfl rfl ?_
  refine TL.on rfl rfl rfl (by simp) ?_
  refine TL.bin hF rfl rfl rfl rfl ?_
  refine TL.pickF hF rfl (by simp) rfl rfl ?_
  refine TL.move hF rfl rfl ?_
  refine TL.on rfl rfl rfl (decide_eq_false (by omega)) ?_
  refine TL.move hF rfl rfl ?_
  refine TL.on rfl rfl rfl (decide_eq_false (by omega)) ?_
  refine TL.move hF rfl rfl ?_
  refine TL.on rfl rfl rfl (decide_eq_false (by omega)) ?_
  refine TL.callV hF (EqT_tw h18.ro h14.ro T14.1 T14.1 hw4 rfl) rfl rfl ?_
  refine TL.on rfl rfl rfl (decide_eq_false (by omega)) ?_
  refine TL.not hF rfl rfl ?_
  refine TL.pickF hF rfl (decide_eq_false (by omega)) rfl rfl ?_
  refine TL.move hF rfl rfl ?_
  refine TL.on rfl rfl rfl (by simp) ?_
  refine TL.move hF rfl rfl ?_
  refine TL.on rfl rfl rfl (by simp) ?_
  refine TL.move hF rfl rfl ?_
  refine TL.on rfl rfl rfl (by simp) ?_
  refine TL.call hF (less_tw h12 h14 T12 T14) rfl rfl ?_
  rintro _ _ ⟨rfl, segs, rfl⟩
  refine TL.hsub [] (List.nil_sublist _) ?_
  rw [stands_ge hFn hFT.wid T12.1]
  refine TL.on rfl rfl rfl (by simp) ?_
  refine TL.not hF rfl rfl ?_
  refine TL.pickF hF rfl (by simp) rfl rfl ?_
  refine TL.move hF rfl rfl ?_
  refine TL.on rfl rfl rfl (by simp) ?_
  refine TL.move hF rfl rfl ?_
  refine TL.on rfl rfl rfl (by simp) ?_
  refine TL.len hF rfl rfl ?_
  refine TL.on rfl rfl rfl (by simp) ?_
  refine TL.move hF rfl rfl ?_
  refine TL.on rfl rfl rfl (by simp) ?_
  refine TL.bin hF rfl rfl rfl rfl ?_
  refine TL.pickF hF rfl (by simp) rfl rfl ?_
  refine TL.nil ?_
  refine TQ.then_n ?_
  refine T.cond_f rfl (by simp) ?_
  refine T.skip ?_
  refine TQ.then_n ?_
  refine T.seq ?_
  refine T.region ?_
  refine TL.assign hF rfl rfl ?_
  refine TL.nil ?_
  refine TQ.then_n ?_
  refine T.seq ?_
  refine T.seq ?_
  refine T.region ?_
  refine TL.assign hF rfl rfl ?_
  refine TL.nil ?_
  refine TQ.then_n ?_
  refine T.block ?_
  refine T.loop (ι := Nat × Bool) (fun i => i.1 ≤ p10.length ∧ i.2 = (F.take i.1).all (fun o => tle tb (tjoin o ta) && tle ta (tjoin o tb))) (fun i => [(3, .slice e ks.length g), (8, .bool false), (9, .int .i64 (w : Int)), (10, .slice a10 p10.length c10), (12, .slice a12 w c12), (13, .slice a13 w c13), (14, .slice a14 w c14), (16, .slice a16 w c16), (20, .bool i.2), (21, .int .i64 (i.1 : Int))]) (fun _ => []) (fun i => p10.length - i.1) (0, true) ⟨Nat.zero_le _, by simp⟩ ⟨rfl, rfl, rfl, rfl, rfl, rfl, rfl, rfl, rfl, rfl, trivial⟩ rfl ?_
  rintro ⟨j, al⟩ ⟨hj, hal⟩
  dsimp only at hj hal
  refine T.seq ?_
  refine T.seq ?_
  refine T.region ?_
  refine TL.move hF rfl rfl ?_
  refine TL.move hF rfl rfl ?_
  refine TL.len hF rfl rfl ?_
  refine TL.bin hF rfl rfl rfl rfl ?_
  refine TL.nil ?_
  refine TQ.then_n ?_
  first | refine T.cond_d rfl (fun ht117 => ?_) (fun ht117 => ?_) | refine T.cond _ rfl (fun ht117 => ?_) (fun ht117 => ?_)
  · refine T.skip ?_
    refine TQ.then_n ?_
    refine T.seq ?_
    refine T.block ?_
    refine T.seq ?_
    have hjl : j < p10.length := by omega
    have hjF : j < F.length := by omega
    have hoe : p10[j].2.1 = F[j] := by
      have h1 := tx_get hjl
      rw [← h1]; simp only [t10]
    have To : Tw w p10[j].2.1 := by rw [hoe]; exact hFT _ (List.getElem_mem hjF)
    have hop : (p10[j].2.1).length = w := To.1
    have hoc : hc p10[j] = .slice p10[j].1 w p10[j].2.2 := by simp only [hc]; rw [hop]
    refine T.drawH 11 mixed ?_
    refine DH.pure (i := 0) [(10, _, none)] rfl rfl rfl rfl ⟨⟨rfl, by kernel_rfl⟩, trivial⟩ (fun _ ext => TL.move hF rfl rfl TL.fin) ?_
    refine DH.pure (i := 1) [(21, _, none)] rfl rfl rfl rfl ⟨⟨rfl, by kernel_rfl⟩, trivial⟩ (fun _ ext => TL.move hF rfl rfl TL.fin) ?_
    refine DH.pure (i := 2) [(120, _, some 0), (121, _, some 1)] rfl rfl rfl rfl ⟨⟨rfl, rfl, rfl⟩, ⟨rfl, rfl, rfl⟩, trivial⟩ (fun _ ext => TL.indexAddr hF rfl rfl (h10.ad hjl) (by omega) (by omega) rfl TL.fin) ?_
    refine DH.read (i := 3) [(122, _, some 2)] rfl rfl rfl rfl ⟨⟨rfl, rfl, rfl⟩, trivial⟩ (fun ext => TL.load hF rfl (v := .slice p10[j].1 w p10[j].2.2) (by rw [← hoc]; exact h10.ro.at hjl) rfl TL.fin) ?_
    refine DH.pure (i := 4) [(12, _, none)] rfl rfl rfl rfl ⟨⟨rfl, by kernel_rfl⟩, trivial⟩ (fun _ ext => TL.move hF rfl rfl TL.fin) ?_
    refine DH.pure (i := 6) [(10, _, none)] rfl rfl rfl rfl ⟨⟨rfl, by kernel_rfl⟩, trivial⟩ (fun _ ext => TL.move hF rfl rfl TL.fin) ?_
    refine DH.pure (i := 7) [(21, _, none)] rfl rfl rfl rfl ⟨⟨rfl, by kernel_rfl⟩, trivial⟩ (fun _ ext => TL.move hF rfl rfl TL.fin) ?_
    refine DH.pure (i := 8) [(126, _, some 6), (127, _, some 7)] rfl rfl rfl rfl ⟨⟨rfl, rfl, rfl⟩, ⟨rfl, rfl, rfl⟩, trivial⟩ (fun _ ext => TL.indexAddr hF rfl rfl (h10.ad hjl) (by omega) (by omega) rfl TL.fin) ?_
    refine DH.read (i := 9) [(128, _, some 8)] rfl rfl rfl rfl ⟨⟨rfl, rfl, rfl⟩, trivial⟩ (fun ext => TL.load hF rfl (v := .slice p10[j].1 w p10[j].2.2) (by rw [← hoc]; exact h10.ro.at hjl) rfl TL.fin) ?_
    refine DH.pure (i := 10) [(13, _, none)] rfl rfl rfl rfl ⟨⟨rfl, by kernel_rfl⟩, trivial⟩ (fun _ ext => TL.move hF rfl rfl TL.fin) ?_
    refine DH.k1 (by kernel_rfl) (by kernel_rfl) (by kernel_rfl) (by kernel_rfl) (HBK.mk (h := 5) [9] [(123, _, some 3), (124, _, some 4)] rfl rfl rfl ⟨⟨rfl, rfl, rfl⟩, ⟨rfl, rfl, rfl⟩, trivial⟩ (by kernel_rfl) (fun ext => ?_))
    refine TL.call hF (join_tw (h10.it hjl) h12 To T12) rfl rfl ?_
    rintro _ _ ⟨a22, c22, s22, rfl, h22, rfl⟩
    refine TL.finK ⟨⟨_, rfl, _, _, [(128, _, some 8)], rfl, rfl, ⟨⟨rfl, rfl, rfl⟩, trivial⟩, fun ext => TL.load hF rfl (v := .slice p10[j].1 w p10[j].2.2) (by rw [← hoc]; exact h10.ro.at hjl) rfl TL.fin⟩, trivial⟩ ?_
    refine DH.done [(125, _), (130, _), (129, _), (128, _), (127, _), (126, _), (124, _), (123, _), (122, _), (121, _), (120, _)] [_, _, _] (by kernel_rfl) (by kernel_rfl) (by kernel_rfl) (by kernel_rfl) rfl rfl ?_
    refine TL.call hF (join_tw (h10.it hjl) h13 To T13) rfl rfl ?_
    rintro _ _ ⟨a23, c23, s23, rfl, h23, rfl⟩
    refine TL.assign hF rfl rfl ?_
    refine TL.assign hF rfl rfl ?_
    refine TL.nil ?_
    refine TQ.then_n ?_
    refine T.region ?_
    refine TL.heap (η' := (s23 ++ s22) ++ []) (by simp) ?_
    refine TL.freeze (s23 ++ s22) rfl (fun S9 w9 hz9 => ?_)
    have k22 := (h22.up (η' := s23 ++ s22) (fun z hz => List.mem_append_right _ hz)).frz hz9
    have k23 := (h23.up (η' := s23 ++ s22) (fun z hz => List.mem_append_left _ hz)).frz hz9
    have k12 := h12.old hz9
    have k13 := h13.old hz9
    refine TL.move hF rfl rfl ?_
    refine TL.move hF rfl rfl ?_
    refine TL.gb (t := 133) rfl (fun g14_133 => ?_) (fun g14_133 => ?_)
    · refine TL.on rfl rfl rfl g14_133 ?_
      refine TL.move hF rfl rfl ?_
      refine TL.on rfl rfl rfl g14_133 ?_
      refine TL.move hF rfl rfl ?_
      refine TL.on rfl rfl rfl g14_133 ?_
      refine TL.call hF (less_tw k13 k22 T13 (To.join T12)) rfl rfl ?_
      rintro _ _ ⟨rfl, segs, rfl⟩
      refine TL.hsub [] (List.nil_sublist _) ?_
      refine TL.pickT hF rfl g14_133 rfl rfl ?_
      refine TL.move hF rfl rfl ?_
      refine TL.gb (t := 138) rfl (fun g14_138 => ?_) (fun g14_138 => ?_)
      · refine TL.on rfl rfl rfl g14_138 ?_
        refine TL.move hF rfl rfl ?_
        refine TL.on rfl rfl rfl g14_138 ?_
        refine TL.move hF rfl rfl ?_
        refine TL.on rfl rfl rfl g14_138 ?_
        refine TL.call hF (less_tw k12 k23 T12 (To.join T13)) rfl rfl ?_
        rintro _ _ ⟨rfl, segs, rfl⟩
        refine TL.hsub [] (List.nil_sublist _) ?_
        refine TL.pickT hF rfl g14_138 rfl rfl ?_
        refine TL.assign hF rfl rfl ?_
        refine TL.nil ?_
        refine TQ.block_n ?_
        refine TQ.then_n ?_
        refine T.region ?_
        refine TL.move hF rfl rfl ?_
        refine TL.add hF rfl rfl (by omega) (by omega) rfl ?_
        refine TL.assign hF rfl rfl ?_
        refine TL.nil ?_
        refine TQ.thaw hz9 ?_
        refine TQ.hsub [] (List.nil_sublist _) ?_
        refine TQ.round (j + 1, tle ta (tjoin p10[j].2.1 tb)) ⟨by dsimp only; omega, ?_⟩ (by dsimp only; omega) ⟨rfl, rfl, rfl, rfl, rfl, rfl, rfl, rfl, rfl, rfl, trivial⟩ rfl
        dsimp only
        rw [List.take_succ_eq_append_getElem hjF, List.all_append, ← hal, ← hoe]
        have g1 : al = true := g14_133
        simp [g1, g14_138]
      · refine TL.off hF rfl rfl rfl g14_138 rfl ?_
        refine TL.off hF rfl rfl rfl g14_138 rfl ?_
        refine TL.off hF rfl rfl rfl g14_138 rfl ?_
        refine TL.pickF hF rfl g14_138 rfl rfl ?_
        refine TL.assign hF rfl rfl ?_
        refine TL.nil ?_
        refine TQ.block_n ?_
        refine TQ.then_n ?_
        refine T.region ?_
        refine TL.move hF rfl rfl ?_
        refine TL.add hF rfl rfl (by omega) (by omega) rfl ?_
        refine TL.assign hF rfl rfl ?_
        refine TL.nil ?_
        refine TQ.thaw hz9 ?_
        refine TQ.hsub [] (List.nil_sublist _) ?_
        refine TQ.round (j + 1, false) ⟨by dsimp only; omega, ?_⟩ (by dsimp only; omega) ⟨rfl, rfl, rfl, rfl, rfl, rfl, rfl, rfl, rfl, rfl, trivial⟩ rfl
        dsimp only
        rw [List.take_succ_eq_append_getElem hjF, List.all_append, ← hal, ← hoe]
        simp [g14_138]
    · refine TL.off hF rfl rfl rfl g14_133 rfl ?_
      refine TL.off hF rfl rfl rfl g14_133 rfl ?_
      refine TL.off hF rfl rfl rfl g14_133 rfl ?_
      refine TL.pickF hF rfl g14_133 rfl rfl ?_
      refine TL.move hF rfl rfl ?_
      refine TL.off hF rfl rfl rfl rfl rfl ?_
      refine TL.off hF rfl rfl rfl rfl rfl ?_
      refine TL.off hF rfl rfl rfl rfl rfl ?_
      refine TL.pickF hF rfl rfl rfl rfl ?_
      refine TL.assign hF rfl rfl ?_
      refine TL.nil ?_
      refine TQ.block_n ?_
      refine TQ.then_n ?_
      refine T.region ?_
      refine TL.move hF rfl rfl ?_
      refine TL.add hF rfl rfl (by omega) (by omega) rfl ?_
      refine TL.assign hF rfl rfl ?_
      refine TL.nil ?_
      refine TQ.thaw hz9 ?_
      refine TQ.hsub [] (List.nil_sublist _) ?_
      refine TQ.round (j + 1, false) ⟨by dsimp only; omega, ?_⟩ (by dsimp only; omega) ⟨rfl, rfl, rfl, rfl, rfl, rfl, rfl, rfl, rfl, rfl, trivial⟩ rfl
      dsimp only
      rw [List.take_succ_eq_append_getElem hjF, List.all_append, ← hal, ← hoe]
      have g1 : al = false := g14_133
      simp [g1]
  · refine T.exit ?_
    refine TQ.then_x ?_
    refine TQ.then_x ?_
    refine TQ.block_x ?_
    refine TQ.then_n ?_
    refine T.seq ?_
    refine T.seq ?_
    refine T.region ?_
    refine TL.move hF rfl rfl ?_
    refine TL.move hF rfl rfl ?_
    refine TL.move hF rfl rfl ?_
    refine TL.callV hF (Eq_tw h14.ro h16.ro T14.1 T16.1 hw4) rfl rfl ?_
    refine TL.neqB hF rfl rfl rfl ?_
    refine TL.nil ?_
    refine TQ.then_n ?_
    refine T.cond_f rfl (by
        have e1 : al = decide ((standsT F ta) = (standsT F tb)) := by rw [hal, List.take_of_length_le (by omega)]; exact stands_alike hFn hFT.wid T12.1 T13.1
        rw [e1]; simp) ?_
    refine T.skip ?_
    refine TQ.then_n ?_
    refine T.seq ?_
    refine T.region ?_
    refine TL.buildSlice hF rfl (cs := #[]) (e := 22) (fun w => by kernel_rfl) rfl (fun b148 => ?_)
    refine TL.assign hF rfl rfl ?_
    refine TL.nil ?_
    refine TQ.then_n ?_
    refine T.seq ?_
    refine T.seq ?_
    refine T.region ?_
    refine TL.assign hF rfl rfl ?_
    refine TL.nil ?_
    refine TQ.then_n ?_
    refine T.block ?_
    clear hal hj
    refine T.loop (ι := Nat × Option Addr × Nat × List (HL × Seg) × Seg) (fun i => match i with | (k, oa, oc, ts, og) => k ≤ ks.length ∧ ts.length ≤ k ∧ k ≤ 12 ∧ OL 22 (.slice oa ts.length oc) ts og ∧ ∀ t ∈ ts, Tw w t.1.2.1 ∧ pastT F t.1.2.1 = true) (fun i => match i with | (k, oa, oc, ts, og) => [(3, .slice e ks.length g), (8, .bool false), (9, .int .i64 (w : Int)), (10, .slice a10 p10.length c10), (12, .slice a12 w c12), (14, .slice a14 w c14), (24, .slice oa ts.length oc), (25, .int .i64 (k : Int))]) (fun i => match i with | (k, oa, oc, ts, og) => og :: (ts.reverse.map (·.2) ++ [])) (fun i => ks.length - i.1) (0, some ⟨b148, 0, none⟩, 0, [], _) ⟨Nat.zero_le _, Nat.zero_le _, Nat.zero_le _, ⟨osl_empty, fun t ht => by simp at ht⟩, fun t ht => by simp at ht⟩ ⟨rfl, rfl, rfl, rfl, rfl, rfl, rfl, rfl, trivial⟩ rfl ?_
    rintro ⟨k, oa, oc, ts, og⟩ ⟨hk2, hts, hk12, hol2, hall2⟩
    refine T.seq ?_
    refine T.seq ?_
    refine T.region ?_
    refine TL.move hF rfl rfl ?_
    refine TL.move hF rfl rfl ?_
    refine TL.len hF rfl rfl ?_
    refine TL.bin hF rfl rfl rfl rfl ?_
    refine TL.move hF rfl rfl ?_
    refine TL.gd (t := 153) rfl (fun g19_153 => ?_) (fun g19_153 => ?_)
    · refine TL.on rfl rfl rfl (decide_eq_true g19_153) ?_
      refine TL.move hF rfl rfl ?_
      refine TL.on rfl rfl rfl (decide_eq_true g19_153) ?_
      refine TL.bin hF rfl rfl rfl rfl ?_
      refine TL.pickT hF rfl (decide_eq_true g19_153) rfl rfl ?_
      refine TL.nil ?_
      refine TQ.then_n ?_
      first | refine T.cond_d rfl (fun ht156 => ?_) (fun ht156 => ?_) | refine T.cond _ rfl (fun ht156 => ?_) (fun ht156 => ?_)
      · refine T.skip ?_
        refine TQ.then_n ?_
        refine T.seq ?_
        refine T.block ?_
        refine T.seq ?_
        refine T.region ?_
        refine TL.move hF rfl rfl ?_
        refine TL.move hF rfl rfl ?_
        refine TL.indexAddr hF rfl rfl (hk.adi (i := k) (by simp; omega)) (by omega) (by omega) rfl ?_
        refine TL.load hF rfl (hk.ro.int (i := k) (by omega)) rfl ?_
        refine TL.move hF rfl rfl ?_
        have hkl : k < ks.length := by omega
        refine TL.call hF (time_fn (hkw _ (List.getElem_mem hkl)) (by omega)) rfl rfl ?_
        rintro _ _ ⟨va, vc, vs, rfl, hv, rfl⟩
        refine TL.assign hF rfl rfl ?_
        refine TL.nil ?_
        refine TQ.then_n ?_
        refine T.seq ?_
        refine T.region ?_
        refine TL.move hF rfl rfl ?_
        refine TL.move hF rfl rfl ?_
        refine TL.freeze [vs] rfl (fun S9 w9 hz9 => ?_)
        have Tt : Tw w (tmI w ks[k]) := tw_tmI hw1 hw4 _
        have kt : Row S9 w9 [] va (ints (tmI w ks[k])) := (hv.row (η := [vs]) List.mem_cons_self).frz hz9
        have k10 := h10.old hz9
        have k12 := h12.old hz9
        have k14 := h14.old hz9
        refine TL.call hF (beyond_tw k10 kt t10 hFT hFr Tt (by omega)) rfl rfl ?_
        rintro _ _ ⟨rfl, segs, rfl⟩
        refine TL.hsub _ (List.sublist_append_right _ _) ?_
        refine TL.move hF rfl rfl ?_
        refine TL.extract hF rfl rfl rfl ?_
        refine TL.extract hF rfl rfl rfl ?_
        refine TL.assign hF rfl rfl ?_
        refine TL.assign hF rfl rfl ?_
        refine TL.nil ?_
        refine TQ.then_n ?_
        refine T.seq ?_
        refine T.seq ?_
        refine T.region ?_
        refine TL.move hF rfl rfl ?_
        refine TL.bin hF rfl rfl rfl rfl ?_
        refine TL.move hF rfl rfl ?_
        refine TL.on rfl rfl rfl (by simp) ?_
        refine TL.move hF rfl rfl ?_
        refine TL.on rfl rfl rfl (by simp) ?_
        refine TL.move hF rfl rfl ?_
        refine TL.gb (t := 175) rfl (fun g23_175 => ?_) (fun g23_175 => ?_)
        · refine TL.on rfl rfl rfl g23_175 ?_
          refine TL.move hF rfl rfl ?_
          refine TL.on rfl rfl rfl g23_175 ?_
          refine TL.move hF rfl rfl ?_
          refine TL.on rfl rfl rfl g23_175 ?_
          refine TL.call hF (less_tw k12 kt T12 Tt) rfl rfl ?_
          rintro _ _ ⟨rfl, segs, rfl⟩
          refine TL.hsub _ (List.sublist_append_right _ _) ?_
          refine TL.on rfl rfl rfl g23_175 ?_
          refine TL.move hF rfl rfl ?_
          refine TL.on rfl rfl rfl g23_175 ?_
          refine TL.move hF rfl rfl ?_
          refine TL.on rfl rfl rfl g23_175 ?_
          refine TL.call hF (less_tw k14 kt T14 Tt) rfl rfl ?_
          rintro _ _ ⟨rfl, segs, rfl⟩
          refine TL.hsub _ (List.sublist_append_right _ _) ?_
          refine TL.on rfl rfl rfl g23_175 ?_
          refine TL.neqB hF rfl rfl rfl ?_
          refine TL.on rfl rfl rfl (by simp) ?_
          refine TL.pickT hF rfl g23_175 rfl rfl ?_
          refine TL.pickF hF rfl (by simp) rfl rfl ?_
          refine TL.nil ?_
          refine TQ.then_n ?_
          refine T.cond_f rfl (by show (tle ta (tmI w ks[k]) != tle (standsT F ta) (tmI w ks[k])) = false; rw [stands_past hFn hFT.wid T12.1 Tt.1 g23_175]; simp) ?_
          refine T.skip ?_
          refine TQ.then_n ?_
          refine T.seq ?_
          refine T.region ?_
          refine TL.move hF rfl rfl ?_
          refine TL.nil ?_
          refine TQ.then_n ?_
          refine T.cond_t rfl g23_175 ?_
          refine T.region ?_
          refine TL.move hF rfl rfl ?_
          refine TL.move hF rfl rfl ?_
          refine TL.thaw hz9 ?_
          refine TL.buildSlice hF rfl (cs := #[.slice va w vc]) (e := 22) (fun w => by kernel_rfl) rfl (fun b188 => ?_)
          refine TL.append hF 2 rfl rfl rfl hol2.o (row_own (cs := [.slice va w vc]) (e := 22) (by simp)).src rfl rfl (by simp [Value.oneCell']) (by omega) (by omega) rfl (fun a' cap' seg' ho' => ?_)
          refine TL.assign hF rfl rfl ?_
          refine TL.nil ?_
          refine TQ.block_n ?_
          refine TQ.then_n ?_
          refine T.region ?_
          refine TL.move hF rfl rfl ?_
          refine TL.add hF rfl rfl (by omega) (by omega) rfl ?_
          refine TL.assign hF rfl rfl ?_
          refine TL.nil ?_
          have e4 : ts.length + 1 = (ts ++ [(((va, tmI w ks[k], vc) : HL), vs)]).length := by simp
          refine TQ.pick [2, 1] [_, _, _] rfl rfl rfl ?_
          refine TQ.round (k + 1, a', cap', ts ++ [((va, tmI w ks[k], vc), vs)], seg') ⟨by omega, by rw [← e4]; omega, by omega, ⟨?_, ?_⟩, ?_⟩ (by dsimp only; omega) ⟨rfl, rfl, rfl, rfl, rfl, rfl, congrArg (fun n : Nat => some (Value.slice a' n cap')) e4, rfl, trivial⟩ (by simp [pickL])
          · rw [← e4, List.map_append]
            have e5 : hc (va, tmI w ks[k], vc) = .slice va w vc := by simp only [hc]; rw [tmI_len]
            simp only [List.map_cons, List.map_nil]
            rw [e5]; exact ho'
          · intro t ht
            rcases List.mem_append.1 ht with h | h
            · exact hol2.i t h
            · rw [List.mem_singleton.1 h]; simp only [hc]; rw [tmI_len]; exact hv
          · intro t ht
            rcases List.mem_append.1 ht with h | h
            · exact hall2 t h
            · rw [List.mem_singleton.1 h]; exact ⟨Tt, g23_175⟩
        · refine TL.off hF rfl rfl rfl g23_175 rfl ?_
          refine TL.off hF rfl rfl rfl g23_175 rfl ?_
          refine TL.off hF rfl rfl rfl g23_175 rfl ?_
          refine TL.off hF rfl rfl rfl g23_175 rfl ?_
          refine TL.off hF rfl rfl rfl g23_175 rfl ?_
          refine TL.off hF rfl rfl rfl g23_175 rfl ?_
          refine TL.off hF rfl rfl rfl g23_175 rfl ?_
          refine TL.on rfl rfl rfl (by simp) ?_
          refine TL.pickF hF rfl g23_175 rfl rfl ?_
          refine TL.pickF hF rfl (by simp) rfl rfl ?_
          refine TL.nil ?_
          refine TQ.then_n ?_
          refine T.cond_f rfl rfl ?_
          refine T.skip ?_
          refine TQ.then_n ?_
          refine T.seq ?_
          refine T.region ?_
          refine TL.move hF rfl rfl ?_
          refine TL.nil ?_
          refine TQ.then_n ?_
          refine T.cond_f rfl g23_175 ?_
          refine T.skip ?_
          refine TQ.block_n ?_
          refine TQ.then_n ?_
          refine T.region ?_
          refine TL.move hF rfl rfl ?_
          refine TL.add hF rfl rfl (by omega) (by omega) rfl ?_
          refine TL.assign hF rfl rfl ?_
          refine TL.nil ?_
          refine TQ.thaw hz9 ?_
          refine TQ.pop ?_
          refine TQ.round (k + 1, oa, oc, ts, og) ⟨by omega, by omega, by omega, hol2, hall2⟩ (by dsimp only; omega) ⟨rfl, rfl, rfl, rfl, rfl, rfl, rfl, rfl, trivial⟩ rfl
      · refine T.exit ?_
        refine TQ.then_x ?_
        refine TQ.then_x ?_
        refine TQ.block_x ?_
        refine TQ.then_n ?_
        refine T.seq ?_
        refine T.seq ?_
        refine T.region ?_
        refine TL.move hF rfl rfl ?_
        refine TL.len hF rfl rfl ?_
        refine TL.bin hF rfl rfl rfl rfl ?_
        refine TL.nil ?_
        refine TQ.then_n ?_
        first | refine T.cond_d rfl (fun ht192 => ?_) (fun ht192 => ?_) | refine T.cond _ rfl (fun ht192 => ?_) (fun ht192 => ?_)
        · refine T.seq ?_
          refine T.region ?_
          refine TL.call hF ordered_fn rfl rfl ?_
          rintro _ _ rfl
          refine TL.assign hF rfl rfl ?_
          refine TL.nil ?_
          refine TQ.then_n ?_
          refine T.ret ?_
          refine TQ.then_r ?_
          exact TQ.retsF [8] _ hb rfl rfl rfl (fun _ => rfl)
        · refine T.skip ?_
          refine TQ.then_n ?_
          refine T.seq ?_
          refine T.region ?_
          refine TL.move hF rfl rfl ?_
          have hll := hol2.ll (S := S5) (w0 := w5) (η := og :: (ts.reverse.map (·.2) ++ [])) List.mem_cons_self (fun t ht => List.mem_cons_of_mem _ (List.mem_append_left _ (List.mem_map_of_mem (List.mem_reverse.2 ht))))
          have hgT : Tws w (tx (ts.map (·.1))) := fun x hx => by
            obtain ⟨p, hp, rfl⟩ := List.mem_map.1 hx
            obtain ⟨t, ht, rfl⟩ := List.mem_map.1 hp
            exact (hall2 t ht).1
          have hgP : ∀ x ∈ tx (ts.map (·.1)), pastT F x = true := fun x hx => by
            obtain ⟨p, hp, rfl⟩ := List.mem_map.1 hx
            obtain ⟨t, ht, rfl⟩ := List.mem_map.1 hp
            exact (hall2 t ht).2
          have hgl : (ts.map (·.1)).length = ts.length := List.length_map _
          have hgn : tx (ts.map (·.1)) ≠ [] := fun h => by have h1 := congrArg List.length h; rw [tx_len, hgl] at h1; have h2 : ts.length = 0 := h1; omega
          have hcall := Firsts_own (c := oc) hll (by rw [hgl]; omega) (fun p hp => by have := (hgT _ (List.mem_map_of_mem hp)).1; omega) (firstsS_tw hgT (by rw [tx_len, hgl]; omega))
          rw [hgl] at hcall
          refine TL.call hF hcall rfl rfl ?_
          rintro _ η7 ⟨a29, c29, p29, segs, rfl, t29, h29, -⟩
          refine TL.freeze η7 (List.append_nil η7).symm (fun S6 w6 hz6 => ?_)
          replace hb := hb.frz hz6
          replace h10 := h10.old hz6
          replace h12 := h12.old hz6
          replace h14 := h14.old hz6
          replace h29 := h29.frz hz6
          have hGr : Fr w (firstsT (tx (ts.map (·.1)))) := fr_firsts hgT.wid
          have hGT : Tws w (firstsT (tx (ts.map (·.1)))) := hgT.firsts
          have hGl : (firstsT (tx (ts.map (·.1)))).length ≤ 12 := Nat.le_trans (outT_len _ _) (by rw [tx_len, hgl]; omega)
          have hGn : (firstsT (tx (ts.map (·.1)))) ≠ [] := firsts_ne hgT.wid hgn
          have hGp : ∀ x ∈ (firstsT (tx (ts.map (·.1)))), pastT F x = true := fun x hx => hgP x (mem_outT.1 hx).1
          generalize (firstsT (tx (ts.map (·.1)))) = G at t29 hGr hGT hGl hGn hGp
          refine TL.move hF rfl rfl ?_
          refine TL.extract hF rfl rfl rfl ?_
          refine TL.extract hF rfl rfl rfl ?_
          refine TL.assign hF rfl rfl ?_
          refine TL.assign hF rfl rfl ?_
          refine TL.nil ?_
          refine TQ.then_n ?_
          refine T.seq ?_
          refine T.region ?_
          refine TL.move hF rfl rfl ?_
          refine TL.move hF rfl rfl ?_
          refine TL.call hF (seen_tw h29 h12 t29 hGT hGr hGn T12 (by omega)) rfl rfl ?_
          rintro _ _ ⟨a30, c30, segs, rfl, h30, rfl⟩
          refine TL.freeze (segs) rfl (fun S7 w7 hz7 => ?_)
          replace hb := hb.frz hz7
          replace h10 := h10.old hz7
          replace h12 := h12.old hz7
          replace h14 := h14.old hz7
          replace h29 := h29.old hz7
          replace h30 := h30.frz hz7
          refine TL.move hF rfl rfl ?_
          refine TL.extract hF rfl rfl rfl ?_
          refine TL.extract hF rfl rfl rfl ?_
          refine TL.assign hF rfl rfl ?_
          refine TL.assign hF rfl rfl ?_
          refine TL.nil ?_
          refine TQ.then_n ?_
          refine T.seq ?_
          refine T.region ?_
          refine TL.move hF rfl rfl ?_
          refine TL.move hF rfl rfl ?_
          refine TL.call hF (seen_tw h29 h14 t29 hGT hGr hGn T14 (by omega)) rfl rfl ?_
          rintro _ _ ⟨a31, c31, segs, rfl, h31, rfl⟩
          refine TL.freeze (segs) rfl (fun S8 w8 hz8 => ?_)
          replace hb := hb.frz hz8
          replace h10 := h10.old hz8
          replace h12 := h12.old hz8
          replace h14 := h14.old hz8
          replace h29 := h29.old hz8
          replace h30 := h30.old hz8
          replace h31 := h31.frz hz8
          refine TL.move hF rfl rfl ?_
          refine TL.extract hF rfl rfl rfl ?_
          refine TL.extract hF rfl rfl rfl ?_
          refine TL.assign hF rfl rfl ?_
          refine TL.assign hF rfl rfl ?_
          refine TL.nil ?_
          refine TQ.then_n ?_
          refine T.seq ?_
          refine T.region ?_
          refine TL.move hF rfl rfl ?_
          refine TL.bin hF rfl rfl rfl rfl ?_
          refine TL.move hF rfl rfl ?_
          refine TL.on rfl rfl rfl (by simp) ?_
          refine TL.move hF rfl rfl ?_
          refine TL.on rfl rfl rfl (by simp) ?_
          refine TL.bin hF rfl rfl rfl rfl ?_
          refine TL.pickT hF rfl (by simp) rfl rfl ?_
          refine TL.move hF rfl rfl ?_
          refine TL.on rfl rfl rfl (by simp) ?_
          refine TL.move hF rfl rfl ?_
          refine TL.on rfl rfl rfl (by simp) ?_
          refine TL.bin hF rfl rfl rfl rfl ?_
          refine TL.pickT hF rfl (by simp) rfl rfl ?_
          refine TL.move hF rfl rfl ?_
          refine TL.on rfl rfl rfl (by simp) ?_
          refine TL.move hF rfl rfl ?_
          refine TL.on rfl rfl rfl (by simp) ?_
          refine TL.move hF rfl rfl ?_
          refine TL.on rfl rfl rfl (by simp) ?_
          refine TL.callV hF (EqT_tw h30.ro h31.ro (stands_tw hGn hGT T12).1 (stands_tw hGn hGT T14).1 hw4 (stands_later hFn hFT.wid hGn hGT.wid hGp T12.1)) rfl rfl ?_
          refine TL.pickT hF rfl (by simp) rfl rfl ?_
          refine TL.move hF rfl rfl ?_
          refine TL.on rfl rfl rfl (by simp) ?_
          refine TL.call hF ordered_fn rfl rfl ?_
          rintro _ _ rfl
          refine TL.pickT hF rfl (by simp) rfl rfl ?_
          refine TL.assign hF rfl rfl ?_
          refine TL.nil ?_
          refine TQ.then_n ?_
          refine T.ret ?_
          exact TQ.retsF [8] _ hb rfl rfl rfl (fun _ => rfl)
    · refine TL.off hF rfl rfl rfl (decide_eq_false g19_153) rfl ?_
      refine TL.off hF rfl rfl rfl (decide_eq_false g19_153) rfl ?_
      refine TL.pickF hF rfl (decide_eq_false g19_153) rfl rfl ?_
      refine TL.nil ?_
      refine TQ.then_n ?_
      refine T.cond_f rfl rfl ?_
      refine T.exit ?_
      refine TQ.then_x ?_
      refine TQ.then_x ?_
      refine TQ.block_x ?_
      refine TQ.then_n ?_
      refine T.seq ?_
      refine T.seq ?_
      refine T.region ?_
      refine TL.move hF rfl rfl ?_
      refine TL.len hF rfl rfl ?_
      refine TL.bin hF rfl rfl rfl rfl ?_
      refine TL.nil ?_
      refine TQ.then_n ?_
      first | refine T.cond_d rfl (fun ht192 => ?_) (fun ht192 => ?_) | refine T.cond _ rfl (fun ht192 => ?_) (fun ht192 => ?_)
      · refine T.seq ?_
        refine T.region ?_
        refine TL.call hF ordered_fn rfl rfl ?_
        rintro _ _ rfl
        refine TL.assign hF rfl rfl ?_
        refine TL.nil ?_
        refine TQ.then_n ?_
        refine T.ret ?_
        refine TQ.then_r ?_
        exact TQ.retsF [8] _ hb rfl rfl rfl (fun _ => rfl)
      · refine T.skip ?_
        refine TQ.then_n ?_
        refine T.seq ?_
        refine T.region ?_
        refine TL.move hF rfl rfl ?_
        have hll := hol2.ll (S := S5) (w0 := w5) (η := og :: (ts.reverse.map (·.2) ++ [])) List.mem_cons_self (fun t ht => List.mem_cons_of_mem _ (List.mem_append_left _ (List.mem_map_of_mem (List.mem_reverse.2 ht))))
        have hgT : Tws w (tx (ts.map (·.1))) := fun x hx => by
          obtain ⟨p, hp, rfl⟩ := List.mem_map.1 hx
          obtain ⟨t, ht, rfl⟩ := List.mem_map.1 hp
          exact (hall2 t ht).1
        have hgP : ∀ x ∈ tx (ts.map (·.1)), pastT F x = true := fun x hx => by
          obtain ⟨p, hp, rfl⟩ := List.mem_map.1 hx
          obtain ⟨t, ht, rfl⟩ := List.mem_map.1 hp
          exact (hall2 t ht).2
        have hgl : (ts.map (·.1)).length = ts.length := List.length_map _
        have hgn : tx (ts.map (·.1)) ≠ [] := fun h => by have h1 := congrArg List.length h; rw [tx_len, hgl] at h1; have h2 : ts.length = 0 := h1; omega
        have hcall := Firsts_own (c := oc) hll (by rw [hgl]; omega) (fun p hp => by have := (hgT _ (List.mem_map_of_mem hp)).1; omega) (firstsS_tw hgT (by rw [tx_len, hgl]; omega))
        rw [hgl] at hcall
        refine TL.call hF hcall rfl rfl ?_
        rintro _ η7 ⟨a29, c29, p29, segs, rfl, t29, h29, -⟩
        refine TL.freeze η7 (List.append_nil η7).symm (fun S6 w6 hz6 => ?_)
        replace hb := hb.frz hz6
        replace h10 := h10.old hz6
        replace h12 := h12.old hz6
        replace h14 := h14.old hz6
        replace h29 := h29.frz hz6
        have hGr : Fr w (firstsT (tx (ts.map (·.1)))) := fr_firsts hgT.wid
        have hGT : Tws w (firstsT (tx (ts.map (·.1)))) := hgT.firsts
        have hGl : (firstsT (tx (ts.map (·.1)))).length ≤ 12 := Nat.le_trans (outT_len _ _) (by rw [tx_len, hgl]; omega)
        have hGn : (firstsT (tx (ts.map (·.1)))) ≠ [] := firsts_ne hgT.wid hgn
        have hGp : ∀ x ∈ (firstsT (tx (ts.map (·.1)))), pastT F x = true := fun x hx => hgP x (mem_outT.1 hx).1
        generalize (firstsT (tx (ts.map (·.1)))) = G at t29 hGr hGT hGl hGn hGp
        refine TL.move hF rfl rfl ?_
        refine TL.extract hF rfl rfl rfl ?_
        refine TL.extract hF rfl rfl rfl ?_
        refine TL.assign hF rfl rfl ?_
        refine TL.assign hF rfl rfl ?_
        refine TL.nil ?_
        refine TQ.then_n ?_
        refine T.seq ?_
        refine T.region ?_
        refine TL.move hF rfl rfl ?_
        refine TL.move hF rfl rfl ?_
        refine TL.call hF (seen_tw h29 h12 t29 hGT hGr hGn T12 (by omega)) rfl rfl ?_
        rintro _ _ ⟨a30, c30, segs, rfl, h30, rfl⟩
        refine TL.freeze (segs) rfl (fun S7 w7 hz7 => ?_)
        replace hb := hb.frz hz7
        replace h10 := h10.old hz7
        replace h12 := h12.old hz7
        replace h14 := h14.old hz7
        replace h29 := h29.old hz7
        replace h30 := h30.frz hz7
        refine TL.move hF rfl rfl ?_
        refine TL.extract hF rfl rfl rfl ?_
        refine TL.extract hF rfl rfl rfl ?_
        refine TL.assign hF rfl rfl ?_
        refine TL.assign hF rfl rfl ?_
        refine TL.nil ?_
        refine TQ.then_n ?_
        refine T.seq ?_
        refine T.region ?_
        refine TL.move hF rfl rfl ?_
        refine TL.move hF rfl rfl ?_
        refine TL.call hF (seen_tw h29 h14 t29 hGT hGr hGn T14 (by omega)) rfl rfl ?_
        rintro _ _ ⟨a31, c31, segs, rfl, h31, rfl⟩
        refine TL.freeze (segs) rfl (fun S8 w8 hz8 => ?_)
        replace hb := hb.frz hz8
        replace h10 := h10.old hz8
        replace h12 := h12.old hz8
        replace h14 := h14.old hz8
        replace h29 := h29.old hz8
        replace h30 := h30.old hz8
        replace h31 := h31.frz hz8
        refine TL.move hF rfl rfl ?_
        refine TL.extract hF rfl rfl rfl ?_
        refine TL.extract hF rfl rfl rfl ?_
        refine TL.assign hF rfl rfl ?_
        refine TL.assign hF rfl rfl ?_
        refine TL.nil ?_
        refine TQ.then_n ?_
        refine T.seq ?_
        refine T.region ?_
        refine TL.move hF rfl rfl ?_
        refine TL.bin hF rfl rfl rfl rfl ?_
        refine TL.move hF rfl rfl ?_
        refine TL.on rfl rfl rfl (by simp) ?_
        refine TL.move hF rfl rfl ?_
        refine TL.on rfl rfl rfl (by simp) ?_
        refine TL.bin hF rfl rfl rfl rfl ?_
        refine TL.pickT hF rfl (by simp) rfl rfl ?_
        refine TL.move hF rfl rfl ?_
        refine TL.on rfl rfl rfl (by simp) ?_
        refine TL.move hF rfl rfl ?_
        refine TL.on rfl rfl rfl (by simp) ?_
        refine TL.bin hF rfl rfl rfl rfl ?_
        refine TL.pickT hF rfl (by simp) rfl rfl ?_
        refine TL.move hF rfl rfl ?_
        refine TL.on rfl rfl rfl (by simp) ?_
        refine TL.move hF rfl rfl ?_
        refine TL.on rfl rfl rfl (by simp) ?_
        refine TL.move hF rfl rfl ?_
        refine TL.on rfl rfl rfl (by simp) ?_
        refine TL.callV hF (EqT_tw h30.ro h31.ro (stands_tw hGn hGT T12).1 (stands_tw hGn hGT T14).1 hw4 (stands_later hFn hFT.wid hGn hGT.wid hGp T12.1)) rfl rfl ?_
        refine TL.pickT hF rfl (by simp) rfl rfl ?_
        refine TL.move hF rfl rfl ?_
        refine TL.on rfl rfl rfl (by simp) ?_
        refine TL.call hF ordered_fn rfl rfl ?_
        rintro _ _ rfl
        refine TL.pickT hF rfl (by simp) rfl rfl ?_
        refine TL.assign hF rfl rfl ?_
        refine TL.nil ?_
        refine TQ.then_n ?_
        refine T.ret ?_
        exact TQ.retsF [8] _ hb rfl rfl rfl (fun _ => rfl)
end Go.Proofs.YteimjjpigohnhaaGreat
/- What the arguments that are arrays hold. -/
namespace Go.Proofs.YteimjjpigohnhaaGreat
open Go.Sl Go.ChangeShapes Go.WideShapes Go.Deep Go.RowKit
set_option maxRecDepth 100000
section
variable {H : Type} {enc : TypeId × Value → H} {W : World} {base : Nat}
theorem k52 : Tryz.prog.cellsOf 52 = 3 := by kernel_rfl
theorem k60 : Tryz.prog.cellsOf 60 = 2 := by kernel_rfl
theorem arr3_open {v : Value} {d : DataW H} {ps : List MemPlace} (hval : Value.okWide Tryz.prog W .any base 52 v) (h : DataW.Trod enc Tryz.prog W 0 (fun _ => true) true 52 v d ps) : ∃ a b c : Int, v = .agg #[.int .i64 a, .int .i64 b, .int .i64 c] ∧ W64 a ∧ W64 b ∧ W64 c := by
  simp only [Value.okWide, u52] at hval
  obtain ⟨cs, rfl, h2, _⟩ := hval
  rw [k52] at h2
  obtain ⟨fuel, hf⟩ := h
  obtain ⟨l⟩ := cs
  match l, h2 with
  | [c0, c1, c2], _ =>
    obtain ⟨y0, y1, y2, n, _, h0, h1, h2⟩ := trod_array3 u52 k3 hf
    obtain ⟨z0, e0, _, w0⟩ := DataW.trod_int u3 h0
    obtain ⟨z1, e1, _, w1⟩ := DataW.trod_int u3 h1
    obtain ⟨z2, e2, _, w2⟩ := DataW.trod_int u3 h2
    simp only [List.cons.injEq, and_true] at e0 e1 e2
    exact ⟨z0, z1, z2, by rw [e0, e1, e2], wf_i64 w0, wf_i64 w1, wf_i64 w2⟩
theorem arr2_open {v : Value} {d : DataW H} {ps : List MemPlace} (hval : Value.okWide Tryz.prog W .any base 60 v) (h : DataW.Trod enc Tryz.prog W 0 (fun _ => true) true 60 v d ps) : ∃ a b : Int, v = .agg #[.int .i64 a, .int .i64 b] ∧ W64 a ∧ W64 b := by
  simp only [Value.okWide, u60] at hval
  obtain ⟨cs, rfl, h2, _⟩ := hval
  rw [k60] at h2
  obtain ⟨fuel, hf⟩ := h
  obtain ⟨l⟩ := cs
  match l, h2 with
  | [c0, c1], _ =>
    obtain ⟨xs, m, _, _, _, hxl, hi⟩ := DataW.trod_array u60 hf
    rw [k3] at hi
    have h0 := hi 0 (by omega)
    have h1 := hi 1 (by omega)
    rw [List.getElem?_eq_getElem (by omega)] at h0 h1
    obtain ⟨z0, e0, _, w0⟩ := DataW.trod_int u3 h0
    obtain ⟨z1, e1, _, w1⟩ := DataW.trod_int u3 h1
    have e0 : [c0] = [Value.int .i64 z0] := e0
    have e1 : [c1] = [Value.int .i64 z1] := e1
    simp only [List.cons.injEq, and_true] at e0 e1
    exact ⟨z0, z1, by rw [e0, e1], wf_i64 w0, wf_i64 w1⟩
end
end Go.Proofs.YteimjjpigohnhaaGreat
namespace Go.Proofs.YteimjjpigohnhaaGreat
open Go.Sl Go.ChangeShapes Go.WideShapes Go.ChangeAt Go.RowKit 
set_option maxRecDepth 100000 in
theorem orderSeen_lifted (os : Os) (started : os.Started) (H : Type) (enc : TypeId × Value → H) :
    ReturnsInHanded {} Tryz.checked os 12 .any (Rows.orderSeenSpec.pre6 enc Tryz.prog Tryz.f12 Rows.orderSeenRow.domain false) (Rows.orderSeenSpec.post enc Tryz.prog Tryz.f12 false true false false) := by
  refine returnsInHanded_of_change (C := Tryz.checked) Tryz.own started (by kernel_rfl) Tryz.func12
    (ChangeSpec.witness6 (enc := enc) (C := Tryz.checked) false ⟨#[], #[.slice none 0 0, .agg #[.int .i64 0, .int .i64 0], .int .i64 0, .slice none 0 0], []⟩ 8 (by kernel_rfl) (by kernel_rfl) (by kernel_rfl) (by kernel_rfl)) ?_
  intro W base args ds gs before hval hW hcnd _
  have hW' := hW
  obtain ⟨p, q, hA0, hV, rfl, hfz, hnd⟩ := hW
  have hA : DataW.TrodAll enc Tryz.prog W 0 (fun _ => true) true [22, 60, 3, 22] args.toList ds p := hA0
  have hval' : ∀ (j : Nat) t v, (#[22, 60, 3, 22] : Array TypeId)[j]? = some t → args[j]? = some v → Value.okWide Tryz.prog W .any base t v := hval
  obtain ⟨v0, v1, v2, v3, d0, d1, d2, d3, p0, p1, p2, p3, rfl, rfl, rfl, h0, h1, h2, h3⟩ := trodAll_four hA
  obtain ⟨_, _, _, rfl⟩ := okWide_slice u22 (hval' 0 22 v0 rfl rfl)
  obtain ⟨_, h0⟩ := h0
  obtain ⟨a0, xs0, c0, e0, hx0, hl0, hw0⟩ := time_read h0
  obtain ⟨n1, m1, rfl, wn1, wm1⟩ := arr2_open (hval' 1 60 v1 rfl rfl) h1
  obtain ⟨z2, rfl, _, _, wz2⟩ := open_int u3 (hval' 2 3 v2 rfl rfl) h2
  have wz2 := wf_i64 wz2
  obtain ⟨_, _, _, rfl⟩ := okWide_slice u22 (hval' 3 22 v3 rfl rfl)
  obtain ⟨_, h3⟩ := h3
  obtain ⟨a3, xs3, c3, e3, hx3, hl3, hw3⟩ := time_read h3
  rw [e0, e3] at hW' ⊢
  refine (calls_true (OrderSeen_fn hx0 hx3 hl0 hl3 hw0 hw3 wn1 wm1 wz2)).mono fun e W' ⟨he, hw⟩ => ⟨_, he, ?_⟩
  exact law_post (f := Tryz.f12) Tryz.laidOut rfl 4 rfl u4 hW' rfl (by decide +kernel) hw
theorem orderSeen_holds : Rows.OrderSeenSaid :=
  OpenClaim.holds_of_wide 12 Tryz.f12 rfl rfl rfl rfl rfl rfl rfl ⟨rfl, rfl, rfl, rfl, rfl⟩ rfl rfl rfl rfl rfl (by kernel_rfl) Tryz.func12 (by kernel_rfl)
    (of_decide_eq_true (by kernel_rfl)) (by unfold Func.isWrapper; first | (rw [if_pos (by decide +kernel)]; kernel_rfl) | (rw [if_neg (by decide +kernel)]; exact ⟨rfl, rfl⟩))
    (fun os started H enc _ => orderSeen_lifted os started H enc)
#print axioms orderSeen_holds
end Go.Proofs.YteimjjpigohnhaaGreat
