/- Meets and joins of three times: for every input. No condition. -/
import Derived.Test.YteimjjpigohnhaaGreatRf
import Derived.Laws.IdiomArrays
import Derived.Test.YteimjjpigohnhaaGreatRows
/- Times that fit: what functions make of them. -/
namespace Go.Proofs.YteimjjpigohnhaaGreat
open Go.Sl
/-- A time of so many numbers. -/
def Tw (w : Nat) (t : Tm) : Prop := t.length = w ∧ isT t = true
def Tws (w : Nat) (l : List Tm) : Prop := ∀ x ∈ l, Tw w x
theorem Tws.wid {w : Nat} {l : List Tm} (h : Tws w l) : Wid w l := fun x hx => (h x hx).1
theorem isT_iff {t : Tm} : isT t = true ↔ (1 ≤ t.length ∧ t.length ≤ 4) ∧ ∀ n ∈ t, 0 ≤ n ∧ n ≤ 1073741824 := by simp [isT]
theorem tw_tmI {w : Nat} (h1 : 1 ≤ w) (h4 : w ≤ 4) (n : Int) : Tw w (tmI w n) := ⟨tmI_len w n, isT_iff.2 ⟨by rw [tmI_len]; exact ⟨h1, h4⟩, fun x hx => by have := tmI_range w n x hx; omega⟩⟩
theorem tws_tms {w : Nat} (h1 : 1 ≤ w) (h4 : w ≤ 4) (l : List Int) (k : Nat) : Tws w (tmsI l w k) := fun x hx => by
  obtain ⟨n, _, rfl⟩ := List.mem_map.1 hx
  exact tw_tmI h1 h4 n
theorem tmsI_len (l : List Int) (w k : Nat) : (tmsI l w k).length ≤ k := by unfold tmsI; rw [List.length_map, List.length_take]; omega
theorem Tws.nil (w : Nat) : Tws w [] := fun _ h => by simp at h
theorem Tws.one {w : Nat} {t : Tm} (h : Tw w t) : Tws w [t] := fun x hx => by rw [List.mem_singleton.1 hx]; exact h
theorem Tws.app {w : Nat} {l m : List Tm} (h : Tws w l) (h2 : Tws w m) : Tws w (l ++ m) := fun x hx => (List.mem_append.1 hx).elim (h x) (h2 x)
theorem Tws.sub {w : Nat} {l m : List Tm} (h : Tws w l) (hm : ∀ x ∈ m, x ∈ l) : Tws w m := fun x hx => h x (hm x hx)
theorem Tws.firsts {w : Nat} {l : List Tm} (h : Tws w l) : Tws w (firstsT l) := h.sub fun _ hx => (mem_outT.1 hx).1
theorem Tws.lasts {w : Nat} {l : List Tm} (h : Tws w l) : Tws w (lastsT l) := h.sub fun _ hx => (mem_outT.1 hx).1
theorem join_range : ∀ {a b : Tm}, (∀ n ∈ a, 0 ≤ n ∧ n ≤ 1073741824) → (∀ n ∈ b, 0 ≤ n ∧ n ≤ 1073741824) → ∀ n ∈ tjoin a b, 0 ≤ n ∧ n ≤ 1073741824
  | [], _, _, _, n, h => by simp [tjoin] at h
  | _ :: _, [], _, _, n, h => by simp [tjoin] at h
  | x :: a, y :: b, ha, hb, n, h => by
    have hx := ha x List.mem_cons_self
    have hy := hb y List.mem_cons_self
    simp only [tjoin, List.zipWith_cons_cons, List.mem_cons] at h
    rcases h with rfl | h
    · omega
    · exact join_range (fun n hn => ha n (List.mem_cons_of_mem _ hn)) (fun n hn => hb n (List.mem_cons_of_mem _ hn)) n h
theorem meet_range : ∀ {a b : Tm}, (∀ n ∈ a, 0 ≤ n ∧ n ≤ 1073741824) → (∀ n ∈ b, 0 ≤ n ∧ n ≤ 1073741824) → ∀ n ∈ tmeet a b, 0 ≤ n ∧ n ≤ 1073741824
  | [], _, _, _, n, h => by simp [tmeet] at h
  | _ :: _, [], _, _, n, h => by simp [tmeet] at h
  | x :: a, y :: b, ha, hb, n, h => by
    have hx := ha x List.mem_cons_self
    have hy := hb y List.mem_cons_self
    simp only [tmeet, List.zipWith_cons_cons, List.mem_cons] at h
    rcases h with rfl | h
    · omega
    · exact meet_range (fun n hn => ha n (List.mem_cons_of_mem _ hn)) (fun n hn => hb n (List.mem_cons_of_mem _ hn)) n h
theorem Tw.join {w : Nat} {a b : Tm} (ha : Tw w a) (hb : Tw w b) : Tw w (tjoin a b) := by
  have h1 := isT_iff.1 ha.2; have h2 := isT_iff.1 hb.2
  have e : (tjoin a b).length = w := by rw [tjoin_len (ha.1.trans hb.1.symm), ha.1]
  exact ⟨e, isT_iff.2 ⟨by rw [e, ← ha.1]; exact h1.1, join_range h1.2 h2.2⟩⟩
theorem Tw.meet {w : Nat} {a b : Tm} (ha : Tw w a) (hb : Tw w b) : Tw w (tmeet a b) := by
  have h1 := isT_iff.1 ha.2; have h2 := isT_iff.1 hb.2
  have e : (tmeet a b).length = w := by rw [tmeet_len (ha.1.trans hb.1.symm), ha.1]
  exact ⟨e, isT_iff.2 ⟨by rw [e, ← ha.1]; exact h1.1, meet_range h1.2 h2.2⟩⟩
theorem Tws.joins {w : Nat} {f g : List Tm} (hf : Tws w f) (hg : Tws w g) : Tws w (joinsT f g) := fun x hx => by
  obtain ⟨y, hy, hx2⟩ := List.mem_flatMap.1 hx
  obtain ⟨z, hz, rfl⟩ := List.mem_map.1 hx2
  exact (hf y hy).join (hg z hz)
theorem joinsT_len (f g : List Tm) : (joinsT f g).length = f.length * g.length := by unfold joinsT; exact flat_len g.length _ (fun x => by simp) f
theorem Tws.fit {w : Nat} {l : List Tm} (h : Tws w l) : fitT l = true := by
  cases l with
  | nil => rfl
  | cons t r =>
    unfold fitT fitW
    rw [List.all_eq_true]
    intro x hx
    have h1 := h x hx; have h2 := h t List.mem_cons_self
    rw [Bool.and_eq_true]
    exact ⟨h1.2, decide_eq_true (by rw [h1.1]; exact h2.1.symm)⟩
theorem Tws.times {w : Nat} {l : List Tm} (h : Tws w l) (hl : l.length ≤ 200) : timesE l = 0 := by unfold timesE; rw [if_neg (by omega), if_pos h.fit]
theorem Tws.front {w : Nat} {f g m : List Tm} (hf : Tws w f) (hg : Tws w g) (hm : Tws w m) (h1 : f.length ≤ 200) (h2 : g.length ≤ 200) (h3 : m.length ≤ 200) (e1 : f = firstsT f) (e2 : g = firstsT g) : frontE f g m = 0 := by
  unfold frontE
  rw [if_neg (by omega), if_pos ((hf.app hg).app hm).fit, if_pos ⟨e1, e2⟩]
theorem firsts_self {w : Nat} {l : List Tm} (h : Wid w l) : firstsT l = firstsT (firstsT l) := (fr_firsts h).firsts.symm
theorem firsts_nil : ([] : List Tm) = firstsT [] := rfl
theorem lessB_tw {w : Nat} {a b : Tm} (ha : Tw w a) (hb : Tw w b) : lessB a b = tle a b := by
  have h : fitT [a, b] = true := Tws.fit (w := w) fun x hx => by
    simp only [List.mem_cons, List.not_mem_nil, or_false] at hx
    rcases hx with rfl | rfl
    · exact ha
    · exact hb
  unfold lessB lessS
  rw [if_pos h]; simp
theorem meetS_tw {w : Nat} {a b : Tm} (ha : Tw w a) (hb : Tw w b) : meetS a b = (tmeet a b, 0) := by
  have h : fitT [a, b] = true := Tws.fit (w := w) fun x hx => by
    simp only [List.mem_cons, List.not_mem_nil, or_false] at hx
    rcases hx with rfl | rfl
    · exact ha
    · exact hb
  unfold meetS; rw [if_pos h]
theorem joinS_tw {w : Nat} {a b : Tm} (ha : Tw w a) (hb : Tw w b) : joinS a b = (tjoin a b, 0) := by
  have h : fitT [a, b] = true := Tws.fit (w := w) fun x hx => by
    simp only [List.mem_cons, List.not_mem_nil, or_false] at hx
    rcases hx with rfl | rfl
    · exact ha
    · exact hb
  unfold joinS; rw [if_pos h]
theorem firstsS_tw {w : Nat} {l : List Tm} (h : Tws w l) (hl : l.length ≤ 200) : firstsS l = (firstsT l, 0) := by unfold firstsS; rw [if_pos (h.times hl)]
theorem lastsS_tw {w : Nat} {l : List Tm} (h : Tws w l) (hl : l.length ≤ 200) : lastsS l = (lastsT l, 0) := by unfold lastsS; rw [if_pos (h.times hl)]
theorem beyondS_tw {w : Nat} {f : List Tm} {t : Tm} (hf : Tws w f) (ht : Tw w t) (hl : f.length ≤ 200) (e : f = firstsT f) : beyondS f t = (pastT f t, 0) := by unfold beyondS; rw [if_pos (hf.front (Tws.nil w) (Tws.one ht) hl (by simp) (by simp) e firsts_nil)]
theorem seenS_tw {w : Nat} {f : List Tm} {t : Tm} (hf : Tws w f) (ht : Tw w t) (hl : f.length ≤ 200) (e : f = firstsT f) (hn : f ≠ []) : seenS f t = (standsT f t, 0) := by unfold seenS; rw [if_pos (hf.front (Tws.nil w) (Tws.one ht) hl (by simp) (by simp) e firsts_nil), if_neg hn]
theorem aheadS_tw {w : Nat} {f g : List Tm} (hf : Tws w f) (hg : Tws w g) (hl : f.length ≤ 200) (hl2 : g.length ≤ 200) (e : f = firstsT f) (e2 : g = firstsT g) : aheadS f g = (aheadT f g, 0) := by unfold aheadS; rw [if_pos (hf.front hg (Tws.nil w) hl hl2 (by simp) e e2)]
theorem eitherS_tw {w : Nat} {f g : List Tm} (hf : Tws w f) (hg : Tws w g) (hl : f.length ≤ 200) (hl2 : g.length ≤ 200) (e : f = firstsT f) (e2 : g = firstsT g) : eitherS f g = (firstsT (f ++ g), 0) := by unfold eitherS; rw [if_pos (hf.front hg (Tws.nil w) hl hl2 (by simp) e e2)]
theorem bothS_tw {w : Nat} {f g : List Tm} (hf : Tws w f) (hg : Tws w g) (hl : f.length ≤ 200) (hl2 : g.length ≤ 200) (e : f = firstsT f) (e2 : g = firstsT g) : bothS f g = (firstsT (joinsT f g), 0) := by unfold bothS; rw [if_pos (hf.front hg (Tws.nil w) hl hl2 (by simp) e e2)]
theorem past_joins {w : Nat} {f g : List Tm} (hf : Wid w f) (hg : Wid w g) {t : Tm} (ht : t.length = w) : pastT (joinsT f g) t = (pastT f t && pastT g t) := by
  rw [Bool.eq_iff_iff, Bool.and_eq_true, pastT_iff, pastT_iff, pastT_iff]
  constructor
  · rintro ⟨o, ho, hl⟩
    obtain ⟨y, hy, hx2⟩ := List.mem_flatMap.1 ho
    obtain ⟨z, hz, rfl⟩ := List.mem_map.1 hx2
    have h := (join_le ((hf y hy).trans (hg z hz).symm) ((hg z hz).trans ht.symm)).1 hl
    exact ⟨⟨y, hy, h.1⟩, ⟨z, hz, h.2⟩⟩
  · rintro ⟨⟨y, hy, h1⟩, ⟨z, hz, h2⟩⟩
    exact ⟨tjoin y z, List.mem_flatMap.2 ⟨y, hy, List.mem_map.2 ⟨z, hz, rfl⟩⟩, (join_le ((hf y hy).trans (hg z hz).symm) ((hg z hz).trans ht.symm)).2 ⟨h1, h2⟩⟩
theorem past_app (f g : List Tm) (t : Tm) : pastT (f ++ g) t = (pastT f t || pastT g t) := by unfold pastT; rw [List.any_append]
theorem past_self {f : List Tm} {t : Tm} (h : t ∈ f) : pastT f t = true := pastT_iff.2 ⟨t, h, tle_refl t⟩
theorem wid_joins {w : Nat} {f g : List Tm} (hf : Wid w f) (hg : Wid w g) : Wid w (joinsT f g) := fun x hx => by
  obtain ⟨y, hy, hx2⟩ := List.mem_flatMap.1 hx
  obtain ⟨z, hz, rfl⟩ := List.mem_map.1 hx2
  rw [tjoin_len ((hf y hy).trans (hg z hz).symm), hf y hy]
/-- The laws of two frontiers. -/
theorem absorb {w : Nat} {f g : List Tm} (hf : Fr w f) (hg : Fr w g) : firstsT (joinsT f (firstsT (f ++ g))) = f := by
  have hw : Wid w (f ++ g) := fun x hx => (List.mem_append.1 hx).elim (hf.wid x) (hg.wid x)
  have he := fr_firsts hw
  have hj := wid_joins hf.wid he.wid
  refine (fr_firsts hj).ext hf (fun t ht => ?_) (fun t ht => ?_)
  · have h1 := past_self ht
    have hl := (fr_firsts hj).wid t ht
    rw [past_firsts hj hl, past_joins hf.wid he.wid hl, Bool.and_eq_true] at h1
    exact h1.1
  · have hl := hf.wid t ht
    rw [past_firsts hj hl, past_joins hf.wid he.wid hl, past_firsts hw hl, past_app, past_self ht]; rfl
theorem ahead_either {w : Nat} {f g : List Tm} (hf : Fr w f) (hg : Fr w g) : aheadT f g = decide (firstsT (f ++ g) = f) := by
  have hw : Wid w (f ++ g) := fun x hx => (List.mem_append.1 hx).elim (hf.wid x) (hg.wid x)
  rw [Bool.eq_iff_iff, decide_eq_true_eq]
  unfold aheadT
  rw [List.all_eq_true]
  constructor
  · intro h
    refine (fr_firsts hw).ext hf (fun t ht => ?_) (fun t ht => ?_)
    · rcases List.mem_append.1 (mem_outT.1 ht).1 with h1 | h1
      · exact past_self h1
      · exact h t h1
    · rw [past_firsts hw (hf.wid t ht), past_app, past_self ht]; rfl
  · intro e t ht
    have hl := hg.wid t ht
    have h1 : pastT (firstsT (f ++ g)) t = true := by rw [past_firsts hw hl, past_app, past_self ht, Bool.or_true]
    rw [e] at h1; exact h1
theorem ahead_both {w : Nat} {f g : List Tm} (hf : Fr w f) (hg : Fr w g) : aheadT f g = decide (firstsT (joinsT f g) = g) := by
  have hj := wid_joins hf.wid hg.wid
  rw [Bool.eq_iff_iff, decide_eq_true_eq]
  unfold aheadT
  rw [List.all_eq_true]
  constructor
  · intro h
    refine (fr_firsts hj).ext hg (fun t ht => ?_) (fun t ht => ?_)
    · have h1 := past_self ht
      have hl := (fr_firsts hj).wid t ht
      rw [past_firsts hj hl, past_joins hf.wid hg.wid hl, Bool.and_eq_true] at h1
      exact h1.2
    · have hl := hg.wid t ht
      rw [past_firsts hj hl, past_joins hf.wid hg.wid hl, past_self ht, h t ht]; rfl
  · intro e t ht
    have hl := hg.wid t ht
    have h1 : pastT (firstsT (joinsT f g)) t = true := by rw [e]; exact past_self ht
    rw [past_firsts hj hl, past_joins hf.wid hg.wid hl, Bool.and_eq_true] at h1
    exact h1.1
/-! Where one stands. -/
theorem le_stands {w : Nat} {f : List Tm} (hn : f ≠ []) (hf : Wid w f) {t c : Tm} (ht : t.length = w) (hc : c.length = w) : tle c (standsT f t) = true ↔ ∀ o ∈ f, tle c (tjoin o t) = true := by
  cases f with
  | nil => exact absurd rfl hn
  | cons o r =>
    have ho := hf o List.mem_cons_self
    have hr : Wid w r := fun y hy => hf y (List.mem_cons_of_mem _ hy)
    have e : standsT (o :: r) t = (r.map fun x => tjoin x t).foldl tmeet (tjoin o t) := by
      show r.foldl (fun s o => tmeet s (tjoin o t)) (tjoin o t) = _
      rw [List.foldl_map]
    rw [e, le_fold hc _ _ (fun y hy => by obtain ⟨z, hz, rfl⟩ := List.mem_map.1 hy; rw [tjoin_len ((hr z hz).trans ht.symm), hr z hz]) (by rw [tjoin_len (ho.trans ht.symm), ho])]
    simp
theorem stands_le {w : Nat} {f : List Tm} (hn : f ≠ []) (hf : Wid w f) {t c : Tm} (ht : t.length = w) (hc : c.length = w) : tle (standsT f t) c = true ↔ tle (meetT f) c = true ∧ tle t c = true := by
  rw [stands_eq hn, join_le ((meetT_len hn hf).trans ht.symm) (ht.trans hc.symm)]
theorem meetT_le {w : Nat} {f : List Tm} (hn : f ≠ []) (hf : Wid w f) {o : Tm} (ho : o ∈ f) : tle (meetT f) o = true := (le_meetT hn hf (meetT_len hn hf)).1 (tle_refl _) o ho
end Go.Proofs.YteimjjpigohnhaaGreat
/- Lists of times that the laws make and compare. -/
namespace Go.Proofs.YteimjjpigohnhaaGreat
open Go.Sl
variable {S : Nat → Prop} {w0 : World} {η : Heap}
theorem times_ll {a : Option Addr} {l : List Int} {c wide most : Nat} (hx : Row S w0 [] a (ints l)) (hl : l.length < 2 ^ 63) (hw : ∀ x ∈ l, W64 x) (hwd : wide < 1000) (hm : most < 1000) : Rt Tryz.prog 58 [.slice a l.length c, .int .i64 (wide : Int), .int .i64 (most : Int)].toArray S w0 η (fun v η' => ∃ a' cap ps segs, v = .slice a' ps.length cap ∧ tx ps = tmsI l wide most ∧ LL S w0 segs a' ps ∧ η' = segs ++ η) := by
  refine (times_fn (c := c) hx hl hw hwd hm).mono ?_
  rintro v η' ⟨a', cap, outs, og, rfl, hol, hto, rfl⟩
  exact ⟨a', cap, outs.map (·.1), og :: outs.reverse.map (·.2), by rw [List.length_map], by rw [← hto]; simp [tx, List.map_map, Function.comp_def], hol.ll List.mem_cons_self (fun t ht => List.mem_cons_of_mem _ (List.mem_map_of_mem (List.mem_reverse.2 ht))), rfl⟩
theorem among_true {a b : Option Addr} {ps qs : List HL} {c d : Nat} (hx : LL S w0 η a ps) (hy : LL S w0 η b qs) (hl : ps.length < 2 ^ 63) (hl2 : qs.length < 2 ^ 63) (hlx : ∀ p ∈ ps, p.2.1.length < 2 ^ 63) (hs : ∀ x ∈ tx ps, x ∈ tx qs) : Rt Tryz.prog 51 [.slice a ps.length c, .slice b qs.length d].toArray S w0 η (fun v η' => v = .bool true ∧ η' = η) := by
  have h := among_fn (c := c) (d := d) hx hy hl hl2 hlx
  have e : ((tx ps).all fun x => (tx qs).any fun y => decide (x = y)) = true := by
    rw [List.all_eq_true]
    intro x hx
    rw [List.any_eq_true]
    exact ⟨x, hs x hx, decide_eq_true rfl⟩
  rw [e] at h; exact h
theorem apart_true {a : Option Addr} {ps : List HL} {c w : Nat} (hx : LL S w0 η a ps) (hl : ps.length < 65536) (hw : ∀ p ∈ ps, p.2.1.length = w) (hw4 : w ≤ 4) (he : tx ps = firstsT (tx ps)) : Rt Tryz.prog 52 [.slice a ps.length c].toArray S w0 η (fun v η' => v = .bool true ∧ ∃ segs, η' = segs ++ η) := by
  have h := apart_fn (c := c) hx hl hw hw4
  rw [decide_eq_true he] at h; exact h
theorem tx_length {ps : List HL} {L : List Tm} (h : tx ps = L) : ps.length = L.length := by rw [← h, tx_len]
theorem tx_wid {ps : List HL} {L : List Tm} {w : Nat} (h : tx ps = L) (hw : Wid w L) : ∀ p ∈ ps, p.2.1.length = w := wid_tx (h ▸ hw)
theorem Tws.good {w : Nat} {L : List Tm} (h : Tws w L) (hw4 : w ≤ 4) (hl : L.length ≤ 200) : GoodL L := ⟨by omega, fun x hx => by rw [(h x hx).1]; exact hw4⟩
theorem wide_nat (z : Int) : ∃ w : Nat, 1 + turnI z 4 = (w : Int) ∧ 1 ≤ w ∧ w ≤ 4 := by
  have h := turnI_range z (m := 4) (by decide)
  exact ⟨(1 + turnI z 4).toNat, by omega, by omega, by omega⟩
end Go.Proofs.YteimjjpigohnhaaGreat
/- Meets and joins of three times. -/
namespace Go.Proofs.YteimjjpigohnhaaGreat
open Go.Sl
variable {S : Nat → Prop} {w0 : World} {η : Heap}
theorem meet_assoc : ∀ a b c : Tm, tmeet (tmeet a b) c = tmeet a (tmeet b c)
  | [], _, _ => by simp [tmeet]
  | _ :: _, [], _ => by simp [tmeet]
  | _ :: _, _ :: _, [] => by simp [tmeet]
  | x :: a, y :: b, z :: c => by
    have := meet_assoc a b c
    simp only [tmeet, List.zipWith_cons_cons] at this ⊢
    rw [this]; congr 1; omega
theorem join_assoc : ∀ a b c : Tm, tjoin (tjoin a b) c = tjoin a (tjoin b c)
  | [], _, _ => by simp [tjoin]
  | _ :: _, [], _ => by simp [tjoin]
  | _ :: _, _ :: _, [] => by simp [tjoin]
  | x :: a, y :: b, z :: c => by
    have := join_assoc a b c
    simp only [tjoin, List.zipWith_cons_cons] at this ⊢
    rw [this]; congr 1; omega
theorem join_dist : ∀ a b c : Tm, tjoin a (tmeet b c) = tmeet (tjoin a b) (tjoin a c)
  | [], _, _ => by simp [tmeet, tjoin]
  | _ :: _, [], _ => by simp [tmeet, tjoin]
  | _ :: _, _ :: _, [] => by simp [tmeet, tjoin]
  | x :: a, y :: b, z :: c => by
    have := join_dist a b c
    simp only [tmeet, tjoin, List.zipWith_cons_cons] at this ⊢
    rw [this]; congr 1; omega
theorem meet_idem : ∀ a : Tm, tmeet a a = a
  | [] => rfl
  | x :: a => by
    have := meet_idem a
    simp only [tmeet, List.zipWith_cons_cons] at this ⊢
    rw [this]; congr 1; omega
theorem join_idem : ∀ a : Tm, tjoin a a = a
  | [] => rfl
  | x :: a => by
    have := join_idem a
    simp only [tjoin, List.zipWith_cons_cons] at this ⊢
    rw [this]; congr 1; omega
theorem meet_absorb : ∀ {a b : Tm}, a.length = b.length → tmeet a (tjoin a b) = a
  | [], [], _ => rfl
  | [], _ :: _, h => by simp at h
  | _ :: _, [], h => by simp at h
  | x :: a, y :: b, h => by
    have := meet_absorb (a := a) (b := b) (by simpa using h)
    simp only [tmeet, tjoin, List.zipWith_cons_cons] at this ⊢
    rw [this]; congr 1; omega
theorem join_absorb : ∀ {a b : Tm}, a.length = b.length → tjoin a (tmeet a b) = a
  | [], [], _ => rfl
  | [], _ :: _, h => by simp at h
  | _ :: _, [], h => by simp at h
  | x :: a, y :: b, h => by
    have := join_absorb (a := a) (b := b) (by simpa using h)
    simp only [tmeet, tjoin, List.zipWith_cons_cons] at this ⊢
    rw [this]; congr 1; omega
theorem tle_meet : ∀ {a b : Tm}, a.length = b.length → tle a b = decide (tmeet a b = a)
  | [], [], _ => rfl
  | [], _ :: _, h => by simp at h
  | _ :: _, [], h => by simp at h
  | x :: a, y :: b, h => by
    have := tle_meet (a := a) (b := b) (by simpa using h)
    rw [Bool.eq_iff_iff, decide_eq_true_eq] at this ⊢
    simp only [tle, tmeet, List.zipWith_cons_cons, Bool.and_eq_true, decide_eq_true_eq, List.cons.injEq] at this ⊢
    rw [this]
    constructor
    · rintro ⟨h1, h2⟩; exact ⟨by omega, h2⟩
    · rintro ⟨h1, h2⟩; exact ⟨by omega, h2⟩
theorem tle_join : ∀ {a b : Tm}, a.length = b.length → tle a b = decide (tjoin a b = b)
  | [], [], _ => rfl
  | [], _ :: _, h => by simp at h
  | _ :: _, [], h => by simp at h
  | x :: a, y :: b, h => by
    have := tle_join (a := a) (b := b) (by simpa using h)
    rw [Bool.eq_iff_iff, decide_eq_true_eq] at this ⊢
    simp only [tle, tjoin, List.zipWith_cons_cons, Bool.and_eq_true, decide_eq_true_eq, List.cons.injEq] at this ⊢
    rw [this]
    constructor
    · rintro ⟨h1, h2⟩; exact ⟨by omega, h2⟩
    · rintro ⟨h1, h2⟩; exact ⟨by omega, h2⟩
theorem tle_back {a b : Tm} (hl : a.length = b.length) (h : tle a b = true) : tle b a = decide (a = b) := by
  rw [Bool.eq_iff_iff, decide_eq_true_eq]
  exact ⟨fun h2 => tle_anti hl h h2, fun h2 => by rw [h2]; exact tle_refl _⟩
/-! The law's functions at times that fit. -/
theorem Tw.l4 {w : Nat} {t : Tm} (h : Tw w t) : w ≤ 4 := by have := (isT_iff.1 h.2).1.2; rw [h.1] at this; exact this
theorem meet_tw {a b : Option Addr} {xs ys : Tm} {c d w : Nat} (hx : Row S w0 [] a (ints xs)) (hy : Row S w0 [] b (ints ys)) (h1 : Tw w xs) (h2 : Tw w ys) : Rt Tryz.prog 56 [.slice a w c, .slice b w d].toArray S w0 η (fun v η' => ∃ a' cap segs, v = .slice a' w cap ∧ Row S w0 segs a' (ints (tmeet xs ys)) ∧ η' = segs ++ η) := by
  have l := h1.l4
  have h := lawmeet_fn (η := η) (c := c) (d := d) hx hy (by have := h1.1; omega) (by have := h2.1; omega)
  rw [meetS_tw h1 h2, h1.1, h2.1] at h
  have e : (tmeet xs ys).length = w := (h1.meet h2).1
  simpa only [e] using h
theorem join_tw {a b : Option Addr} {xs ys : Tm} {c d w : Nat} (hx : Row S w0 [] a (ints xs)) (hy : Row S w0 [] b (ints ys)) (h1 : Tw w xs) (h2 : Tw w ys) : Rt Tryz.prog 57 [.slice a w c, .slice b w d].toArray S w0 η (fun v η' => ∃ a' cap segs, v = .slice a' w cap ∧ Row S w0 segs a' (ints (tjoin xs ys)) ∧ η' = segs ++ η) := by
  have l := h1.l4
  have h := lawjoin_fn (η := η) (c := c) (d := d) hx hy (by have := h1.1; omega) (by have := h2.1; omega)
  rw [joinS_tw h1 h2, h1.1, h2.1] at h
  have e : (tjoin xs ys).length = w := (h1.join h2).1
  simpa only [e] using h
theorem less_tw {a b : Option Addr} {xs ys : Tm} {c d w : Nat} (hx : Row S w0 [] a (ints xs)) (hy : Row S w0 [] b (ints ys)) (h1 : Tw w xs) (h2 : Tw w ys) : Rt Tryz.prog 19 [.slice a w c, .slice b w d].toArray S w0 η (fun v η' => v = .bool (tle xs ys) ∧ ∃ segs, η' = segs ++ η) := by
  have l := h1.l4
  have h := lawless_fn (η := η) (c := c) (d := d) hx hy (by have := h1.1; omega) (by have := h2.1; omega)
  rw [lessB_tw h1 h2, h1.1, h2.1] at h
  exact h
theorem Eq_tw {a b : Option Addr} {xs ys : Tm} {c d w : Nat} (hx : Row S w0 η a (ints xs)) (hy : Row S w0 η b (ints ys)) (h1 : xs.length = w) (h2 : ys.length = w) (hw : w ≤ 4) : Rt Tryz.prog 18 [.slice a w c, .slice b w d].toArray S w0 η (fun v η' => v = .bool (decide (xs = ys)) ∧ η' = η) := by
  have h := Equal_fn (ca := c) (cb := d) hx hy (by omega)
  rw [h1, h2] at h; exact h
theorem EqT_tw {a b : Option Addr} {xs ys : Tm} {c d w : Nat} (hx : Row S w0 η a (ints xs)) (hy : Row S w0 η b (ints ys)) (h1 : xs.length = w) (h2 : ys.length = w) (hw : w ≤ 4) (he : xs = ys) : Rt Tryz.prog 18 [.slice a w c, .slice b w d].toArray S w0 η (fun v η' => v = .bool true ∧ η' = η) := by
  have h := Eq_tw (c := c) (d := d) hx hy h1 h2 hw
  rw [decide_eq_true he] at h; exact h
end Go.Proofs.YteimjjpigohnhaaGreat
/- What the arguments that are arrays hold. -/
namespace Go.Proofs.YteimjjpigohnhaaGreat
open Go.Sl Go.ChangeShapes Go.WideShapes Go.Deep Go.RowKit
set_option maxRecDepth 100000
section
variable {H : Type} {enc : TypeId × Value → H} {W : World} {base : Nat}
theorem k52 : Tryz.prog.cellsOf 52 = 3 := by kernel_rfl
theorem k60 : Tryz.prog.cellsOf 60 = 2 := by kernel_rfl
theorem arr3_open {v : Value} {d : DataW H} {ps : List MemPlace} (hval : Value.okWide Tryz.prog W .any base 52 v) (h : DataW.Trod enc Tryz.prog W 0 (fun _ => true) true 52 v d ps) : ∃ a b c : Int, v = .agg #[.int .i64 a, .int .i64 b, .int .i64 c] ∧ W64 a ∧ W64 b ∧ W64 c := by
  simp only [Value.okWide, u52] at hval
  obtain ⟨cs, rfl, h2, _⟩ := hval
  rw [k52] at h2
  obtain ⟨fuel, hf⟩ := h
  obtain ⟨l⟩ := cs
  match l, h2 with
  | [c0, c1, c2], _ =>
    obtain ⟨y0, y1, y2, n, _, h0, h1, h2⟩ := trod_array3 u52 k3 hf
    obtain ⟨z0, e0, _, w0⟩ := DataW.trod_int u3 h0
    obtain ⟨z1, e1, _, w1⟩ := DataW.trod_int u3 h1
    obtain ⟨z2, e2, _, w2⟩ := DataW.trod_int u3 h2
    simp only [List.cons.injEq, and_true] at e0 e1 e2
    exact ⟨z0, z1, z2, by rw [e0, e1, e2], wf_i64 w0, wf_i64 w1, wf_i64 w2⟩
theorem arr2_open {v : Value} {d : DataW H} {ps : List MemPlace} (hval : Value.okWide Tryz.prog W .any base 60 v) (h : DataW.Trod enc Tryz.prog W 0 (fun _ => true) true 60 v d ps) : ∃ a b : Int, v = .agg #[.int .i64 a, .int .i64 b] ∧ W64 a ∧ W64 b := by
  simp only [Value.okWide, u60] at hval
  obtain ⟨cs, rfl, h2, _⟩ := hval
  rw [k60] at h2
  obtain ⟨fuel, hf⟩ := h
  obtain ⟨l⟩ := cs
  match l, h2 with
  | [c0, c1], _ =>
    obtain ⟨xs, m, _, _, _, hxl, hi⟩ := DataW.trod_array u60 hf
    rw [k3] at hi
    have h0 := hi 0 (by omega)
    have h1 := hi 1 (by omega)
    rw [List.getElem?_eq_getElem (by omega)] at h0 h1
    obtain ⟨z0, e0, _, w0⟩ := DataW.trod_int u3 h0
    obtain ⟨z1, e1, _, w1⟩ := DataW.trod_int u3 h1
    have e0 : [c0] = [Value.int .i64 z0] := e0
    have e1 : [c1] = [Value.int .i64 z1] := e1
    simp only [List.cons.injEq, and_true] at e0 e1
    exact ⟨z0, z1, by rw [e0, e1], wf_i64 w0, wf_i64 w1⟩
end
end Go.Proofs.YteimjjpigohnhaaGreat
/- Meets and joins of times that numbers make. -/
namespace Go.Proofs.YteimjjpigohnhaaGreat
open Go.Sl
variable {S : Nat → Prop} {w0 : World} {η : Heap}
set_option maxRecDepth 8000
set_option maxHeartbeats 2000000 in
theorem OrderLattice_fn {n0 n1 n2 wide : Int} (hn0 : W64 n0) (hn1 : W64 n1) (hn2 : W64 n2) (_ : W64 wide) :
    Rt Tryz.prog 9 [.agg #[.int .i64 n0, .int .i64 n1, .int .i64 n2], .int .i64 wide].toArray S w0 [] (fun v _ => v = .bool true) := by
  have hF := open_wide
  refine Rt.of (fn := Tryz.f9) Tryz.func9 rfl rfl ?_
  refine T.seq ?_
  refine T.region ?_
  refine TL.box hF rfl rfl (fun b2 => ?_)
  refine TL.assign hF rfl rfl ?_
  refine TL.nil ?_
  refine TQ.then_n ?_
  refine T.seq ?_
  refine T.region ?_
  refine TL.move hF rfl rfl ?_
  refine TL.callV hF (Turn_fn wide (m := 4) (by decide)) rfl rfl ?_
  have hb := Back.refl S w0
  obtain ⟨w, hwe, hw1, hw4⟩ := wide_nat wide
  refine TL.addK hF rfl rfl (r := (w : Int)) (by rw [hwe]; exact wrap_i64 (by omega) (by omega)) rfl ?_
  refine TL.assign hF rfl rfl ?_
  refine TL.nil ?_
  refine TQ.then_n ?_
  refine T.seq ?_
  refine T.drawH 11 mixed ?_
  refine DH.pure (i := 0) [(2, _, none)] rfl rfl rfl rfl ⟨⟨rfl, by kernel_rfl⟩, trivial⟩ (fun _ ext => TL.indexAddrA hF rfl rfl (by omega) (by omega) rfl TL.fin) ?_
  refine DH.read (i := 1) [(13, _, some 0)] rfl rfl rfl rfl ⟨⟨rfl, rfl, rfl⟩, trivial⟩ (fun ext => TL.load hF rfl (own_mem (cs := #[.int .i64 n0, .int .i64 n1, .int .i64 n2]) (e := 52) (fz := (0, 0)) (by simp [Value.cells]) rfl) rfl TL.fin) ?_
  refine DH.pure (i := 2) [(5, _, none)] rfl rfl rfl rfl ⟨⟨rfl, by kernel_rfl⟩, trivial⟩ (fun _ ext => TL.move hF rfl rfl TL.fin) ?_
  refine DH.pure (i := 4) [(2, _, none)] rfl rfl rfl rfl ⟨⟨rfl, by kernel_rfl⟩, trivial⟩ (fun _ ext => TL.indexAddrA hF rfl rfl (by omega) (by omega) rfl TL.fin) ?_
  refine DH.read (i := 5) [(17, _, some 4)] rfl rfl rfl rfl ⟨⟨rfl, rfl, rfl⟩, trivial⟩ (fun ext => TL.load hF rfl (own_mem (cs := #[.int .i64 n0, .int .i64 n1, .int .i64 n2]) (e := 52) (fz := (0, 0)) (by simp [Value.cells]) rfl) rfl TL.fin) ?_
  refine DH.pure (i := 6) [(5, _, none)] rfl rfl rfl rfl ⟨⟨rfl, by kernel_rfl⟩, trivial⟩ (fun _ ext => TL.move hF rfl rfl TL.fin) ?_
  refine DH.pure (i := 8) [(2, _, none)] rfl rfl rfl rfl ⟨⟨rfl, by kernel_rfl⟩, trivial⟩ (fun _ ext => TL.indexAddrA hF rfl rfl (by omega) (by omega) rfl TL.fin) ?_
  refine DH.read (i := 9) [(21, _, some 8)] rfl rfl rfl rfl ⟨⟨rfl, rfl, rfl⟩, trivial⟩ (fun ext => TL.load hF rfl (own_mem (cs := #[.int .i64 n0, .int .i64 n1, .int .i64 n2]) (e := 52) (fz := (0, 0)) (by simp [Value.cells]) rfl) rfl TL.fin) ?_
  refine DH.pure (i := 10) [(5, _, none)] rfl rfl rfl rfl ⟨⟨rfl, by kernel_rfl⟩, trivial⟩ (fun _ ext => TL.move hF rfl rfl TL.fin) ?_
  refine DH.k1 (by kernel_rfl) (by kernel_rfl) (by kernel_rfl) (by kernel_rfl) (HBK.mk (h := 3) [5, 9] [(14, _, some 1), (15, _, some 2)] rfl rfl rfl ⟨⟨rfl, rfl, rfl⟩, ⟨rfl, rfl, rfl⟩, trivial⟩ (by kernel_rfl) (fun ext => ?_))
  refine TL.call hF (time_fn (n := n0) hn0 (by omega)) rfl rfl ?_
  rintro _ _ ⟨a0, c0, s0, rfl, ho0, rfl⟩
  refine TL.finK ⟨⟨_, rfl, _, _, [(17, _, some 4)], rfl, rfl, ⟨⟨rfl, rfl, rfl⟩, trivial⟩, fun ext => TL.load hF rfl (own_mem (cs := #[.int .i64 n0, .int .i64 n1, .int .i64 n2]) (e := 52) (fz := (0, 0)) (by simp [Value.cells]) rfl) rfl TL.fin⟩, ⟨_, rfl, _, _, [(21, _, some 8)], rfl, rfl, ⟨⟨rfl, rfl, rfl⟩, trivial⟩, fun ext => TL.load hF rfl (own_mem (cs := #[.int .i64 n0, .int .i64 n1, .int .i64 n2]) (e := 52) (fz := (0, 0)) (by simp [Value.cells]) rfl) rfl TL.fin⟩, trivial⟩ ?_
  refine DH.k1 (by kernel_rfl) (by kernel_rfl) (by kernel_rfl) (by kernel_rfl) (HBK.mk (h := 7) [9] [(18, _, some 5), (19, _, some 6)] rfl rfl rfl ⟨⟨rfl, rfl, rfl⟩, ⟨rfl, rfl, rfl⟩, trivial⟩ (by kernel_rfl) (fun ext => ?_))
  refine TL.call hF (time_fn (n := n1) hn1 (by omega)) rfl rfl ?_
  rintro _ _ ⟨a1, c1, s1, rfl, ho1, rfl⟩
  refine TL.finK ⟨⟨_, rfl, _, _, [(21, _, some 8)], rfl, rfl, ⟨⟨rfl, rfl, rfl⟩, trivial⟩, fun ext => TL.load hF rfl (own_mem (cs := #[.int .i64 n0, .int .i64 n1, .int .i64 n2]) (e := 52) (fz := (0, 0)) (by simp [Value.cells]) rfl) rfl TL.fin⟩, trivial⟩ ?_
  refine DH.done [(20, _), (16, _), (23, _), (22, _), (21, _), (19, _), (18, _), (17, _), (15, _), (14, _), (13, _)] [_, _, _, _] (by kernel_rfl) (by kernel_rfl) (by kernel_rfl) (by kernel_rfl) rfl rfl ?_
  refine TL.call hF (time_fn (n := n2) hn2 (by omega)) rfl rfl ?_
  rintro _ _ ⟨a2, c2, s2, rfl, ho2, rfl⟩
  refine TL.assign hF rfl rfl ?_
  refine TL.assign hF rfl rfl ?_
  refine TL.assign hF rfl rfl ?_
  refine TL.nil ?_
  refine TQ.then_n ?_
  refine T.seq ?_
  refine T.seq ?_
  refine T.region ?_
  refine TL.move hF rfl rfl ?_
  refine TL.move hF rfl rfl ?_
  refine TL.hsub [s2, s1, s0] (by first | exact List.Sublist.refl _ | exact List.Sublist.cons_cons _ (List.Sublist.cons_cons _ (List.Sublist.cons_cons _ (List.nil_sublist _)))) ?_
  refine TL.freeze [s2, s1, s0] rfl (fun S9 w9 hz9 => ?_)
  replace hb := hb.frz hz9
  have h0 : Row S9 w9 [] a0 (ints (tmI w n0)) := (ho0.row (η := [s2, s1, s0]) (by simp)).frz hz9
  have T0 : Tw w (tmI w n0) := tw_tmI hw1 hw4 n0
  have h1 : Row S9 w9 [] a1 (ints (tmI w n1)) := (ho1.row (η := [s2, s1, s0]) (by simp)).frz hz9
  have T1 : Tw w (tmI w n1) := tw_tmI hw1 hw4 n1
  have h2 : Row S9 w9 [] a2 (ints (tmI w n2)) := (ho2.row (η := [s2, s1, s0]) (by simp)).frz hz9
  have T2 : Tw w (tmI w n2) := tw_tmI hw1 hw4 n2
  generalize tmI w n0 = x0 at h0 T0
  generalize tmI w n1 = x1 at h1 T1
  generalize tmI w n2 = x2 at h2 T2
  refine TL.call hF (meet_tw h0 h1 T0 T1) rfl rfl ?_
  rintro _ _ ⟨a101, c101, segs, rfl, h101, rfl⟩
  refine TL.freeze (segs) rfl (fun S1 w1 hz1 => ?_)
  replace hb := hb.frz hz1
  replace h0 := h0.old hz1
  replace h1 := h1.old hz1
  replace h2 := h2.old hz1
  replace h101 := h101.frz hz1
  refine TL.move hF rfl rfl ?_
  refine TL.move hF rfl rfl ?_
  refine TL.call hF (meet_tw h1 h0 T1 T0) rfl rfl ?_
  rintro _ _ ⟨a102, c102, segs, rfl, h102, rfl⟩
  refine TL.freeze (segs) rfl (fun S2 w2 hz2 => ?_)
  replace hb := hb.frz hz2
  replace h0 := h0.old hz2
  replace h1 := h1.old hz2
  replace h2 := h2.old hz2
  replace h101 := h101.old hz2
  replace h102 := h102.frz hz2
  refine TL.callV hF (EqT_tw h101.ro h102.ro (((T0).meet (T1))).1 (((T1).meet (T0))).1 hw4 (tmeet_comm _ _)) rfl rfl ?_
  refine TL.not hF rfl rfl ?_
  refine TL.move hF rfl rfl ?_
  refine TL.on rfl rfl rfl (by simp) ?_
  refine TL.move hF rfl rfl ?_
  refine TL.on rfl rfl rfl (by simp) ?_
  refine TL.move hF rfl rfl ?_
  refine TL.on rfl rfl rfl (by simp) ?_
  refine TL.call hF (join_tw h0 h1 T0 T1) rfl rfl ?_
  rintro _ _ ⟨a103, c103, segs, rfl, h103, rfl⟩
  refine TL.freeze (segs) rfl (fun S3 w3 hz3 => ?_)
  replace hb := hb.frz hz3
  replace h0 := h0.old hz3
  replace h1 := h1.old hz3
  replace h2 := h2.old hz3
  replace h101 := h101.old hz3
  replace h102 := h102.old hz3
  replace h103 := h103.frz hz3
  refine TL.on rfl rfl rfl (by simp) ?_
  refine TL.move hF rfl rfl ?_
  refine TL.on rfl rfl rfl (by simp) ?_
  refine TL.move hF rfl rfl ?_
  refine TL.on rfl rfl rfl (by simp) ?_
  refine TL.call hF (join_tw h1 h0 T1 T0) rfl rfl ?_
  rintro _ _ ⟨a104, c104, segs, rfl, h104, rfl⟩
  refine TL.freeze (segs) rfl (fun S4 w4 hz4 => ?_)
  replace hb := hb.frz hz4
  replace h0 := h0.old hz4
  replace h1 := h1.old hz4
  replace h2 := h2.old hz4
  replace h101 := h101.old hz4
  replace h102 := h102.old hz4
  replace h103 := h103.old hz4
  replace h104 := h104.frz hz4
  refine TL.on rfl rfl rfl (by simp) ?_
  refine TL.callV hF (EqT_tw h103.ro h104.ro (((T0).join (T1))).1 (((T1).join (T0))).1 hw4 (tjoin_comm _ _)) rfl rfl ?_
  refine TL.on rfl rfl rfl (by simp) ?_
  refine TL.not hF rfl rfl ?_
  refine TL.pickF hF rfl (by simp) rfl rfl ?_
  refine TL.move hF rfl rfl ?_
  refine TL.on rfl rfl rfl (by simp) ?_
  refine TL.move hF rfl rfl ?_
  refine TL.on rfl rfl rfl (by simp) ?_
  refine TL.move hF rfl rfl ?_
  refine TL.on rfl rfl rfl (by simp) ?_
  refine TL.call hF (meet_tw h0 h0 T0 T0) rfl rfl ?_
  rintro _ _ ⟨a105, c105, segs, rfl, h105, rfl⟩
  refine TL.freeze (segs) rfl (fun S5 w5 hz5 => ?_)
  replace hb := hb.frz hz5
  replace h0 := h0.old hz5
  replace h1 := h1.old hz5
  replace h2 := h2.old hz5
  replace h101 := h101.old hz5
  replace h102 := h102.old hz5
  replace h103 := h103.old hz5
  replace h104 := h104.old hz5
  replace h105 := h105.frz hz5
  refine TL.on rfl rfl rfl (by simp) ?_
  refine TL.move hF rfl rfl ?_
  refine TL.on rfl rfl rfl (by simp) ?_
  refine TL.callV hF (EqT_tw h105.ro h0.ro (((T0).meet (T0))).1 (T0).1 hw4 (meet_idem _)) rfl rfl ?_
  refine TL.on rfl rfl rfl (by simp) ?_
  refine TL.not hF rfl rfl ?_
  refine TL.pickF hF rfl (by simp) rfl rfl ?_
  refine TL.move hF rfl rfl ?_
  refine TL.on rfl rfl rfl (by simp) ?_
  refine TL.move hF rfl rfl ?_
  refine TL.on rfl rfl rfl (by simp) ?_
  refine TL.move hF rfl rfl ?_
  refine TL.on rfl rfl rfl (by simp) ?_
  refine TL.call hF (join_tw h0 h0 T0 T0) rfl rfl ?_
  rintro _ _ ⟨a106, c106, segs, rfl, h106, rfl⟩
  refine TL.freeze (segs) rfl (fun S6 w6 hz6 => ?_)
  replace hb := hb.frz hz6
  replace h0 := h0.old hz6
  replace h1 := h1.old hz6
  replace h2 := h2.old hz6
  replace h101 := h101.old hz6
  replace h102 := h102.old hz6
  replace h103 := h103.old hz6
  replace h104 := h104.old hz6
  replace h105 := h105.old hz6
  replace h106 := h106.frz hz6
  refine TL.on rfl rfl rfl (by simp) ?_
  refine TL.move hF rfl rfl ?_
  refine TL.on rfl rfl rfl (by simp) ?_
  refine TL.callV hF (EqT_tw h106.ro h0.ro (((T0).join (T0))).1 (T0).1 hw4 (join_idem _)) rfl rfl ?_
  refine TL.on rfl rfl rfl (by simp) ?_
  refine TL.not hF rfl rfl ?_
  refine TL.pickF hF rfl (by simp) rfl rfl ?_
  refine TL.move hF rfl rfl ?_
  refine TL.on rfl rfl rfl (by simp) ?_
  refine TL.move hF rfl rfl ?_
  refine TL.on rfl rfl rfl (by simp) ?_
  refine TL.move hF rfl rfl ?_
  refine TL.on rfl rfl rfl (by simp) ?_
  refine TL.move hF rfl rfl ?_
  refine TL.on rfl rfl rfl (by simp) ?_
  refine TL.call hF (join_tw h0 h1 T0 T1) rfl rfl ?_
  rintro _ _ ⟨a107, c107, segs, rfl, h107, rfl⟩
  refine TL.freeze (segs) rfl (fun S7 w7 hz7 => ?_)
  replace hb := hb.frz hz7
  replace h0 := h0.old hz7
  replace h1 := h1.old hz7
  replace h2 := h2.old hz7
  replace h101 := h101.old hz7
  replace h102 := h102.old hz7
  replace h103 := h103.old hz7
  replace h104 := h104.old hz7
  replace h105 := h105.old hz7
  replace h106 := h106.old hz7
  replace h107 := h107.frz hz7
  refine TL.on rfl rfl rfl (by simp) ?_
  refine TL.call hF (meet_tw h0 h107 T0 ((T0).join (T1))) rfl rfl ?_
  rintro _ _ ⟨a108, c108, segs, rfl, h108, rfl⟩
  refine TL.freeze (segs) rfl (fun S8 w8 hz8 => ?_)
  replace hb := hb.frz hz8
  replace h0 := h0.old hz8
  replace h1 := h1.old hz8
  replace h2 := h2.old hz8
  replace h101 := h101.old hz8
  replace h102 := h102.old hz8
  replace h103 := h103.old hz8
  replace h104 := h104.old hz8
  replace h105 := h105.old hz8
  replace h106 := h106.old hz8
  replace h107 := h107.old hz8
  replace h108 := h108.frz hz8
  refine TL.on rfl rfl rfl (by simp) ?_
  refine TL.move hF rfl rfl ?_
  refine TL.on rfl rfl rfl (by simp) ?_
  refine TL.callV hF (EqT_tw h108.ro h0.ro (((T0).meet (((T0).join (T1))))).1 (T0).1 hw4 (meet_absorb (T0.1.trans T1.1.symm))) rfl rfl ?_
  refine TL.on rfl rfl rfl (by simp) ?_
  refine TL.not hF rfl rfl ?_
  refine TL.pickF hF rfl (by simp) rfl rfl ?_
  refine TL.move hF rfl rfl ?_
  refine TL.on rfl rfl rfl (by simp) ?_
  refine TL.move hF rfl rfl ?_
  refine TL.on rfl rfl rfl (by simp) ?_
  refine TL.move hF rfl rfl ?_
  refine TL.on rfl rfl rfl (by simp) ?_
  refine TL.move hF rfl rfl ?_
  refine TL.on rfl rfl rfl (by simp) ?_
  refine TL.call hF (meet_tw h0 h1 T0 T1) rfl rfl ?_
  rintro _ _ ⟨a109, c109, segs, rfl, h109, rfl⟩
  refine TL.freeze (segs) rfl (fun S9 w9 hz9 => ?_)
  replace hb := hb.frz hz9
  replace h0 := h0.old hz9
  replace h1 := h1.old hz9
  replace h2 := h2.old hz9
  replace h101 := h101.old hz9
  replace h102 := h102.old hz9
  replace h103 := h103.old hz9
  replace h104 := h104.old hz9
  replace h105 := h105.old hz9
  replace h106 := h106.old hz9
  replace h107 := h107.old hz9
  replace h108 := h108.old hz9
  replace h109 := h109.frz hz9
  refine TL.on rfl rfl rfl (by simp) ?_
  refine TL.call hF (join_tw h0 h109 T0 ((T0).meet (T1))) rfl rfl ?_
  rintro _ _ ⟨a110, c110, segs, rfl, h110, rfl⟩
  refine TL.freeze (segs) rfl (fun S10 w10 hz10 => ?_)
  replace hb := hb.frz hz10
  replace h0 := h0.old hz10
  replace h1 := h1.old hz10
  replace h2 := h2.old hz10
  replace h101 := h101.old hz10
  replace h102 := h102.old hz10
  replace h103 := h103.old hz10
  replace h104 := h104.old hz10
  replace h105 := h105.old hz10
  replace h106 := h106.old hz10
  replace h107 := h107.old hz10
  replace h108 := h108.old hz10
  replace h109 := h109.old hz10
  replace h110 := h110.frz hz10
  refine TL.on rfl rfl rfl (by simp) ?_
  refine TL.move hF rfl rfl ?_
  refine TL.on rfl rfl rfl (by simp) ?_
  refine TL.callV hF (EqT_tw h110.ro h0.ro (((T0).join (((T0).meet (T1))))).1 (T0).1 hw4 (join_absorb (T0.1.trans T1.1.symm))) rfl rfl ?_
  refine TL.on rfl rfl rfl (by simp) ?_
  refine TL.not hF rfl rfl ?_
  refine TL.pickF hF rfl (by simp) rfl rfl ?_
  refine TL.nil ?_
  refine TQ.then_n ?_
  refine T.cond_f rfl (by simp) ?_
  refine T.skip ?_
  refine TQ.then_n ?_
  refine T.seq ?_
  refine T.seq ?_
  refine T.region ?_
  refine TL.move hF rfl rfl ?_
  refine TL.move hF rfl rfl ?_
  refine TL.call hF (meet_tw h0 h1 T0 T1) rfl rfl ?_
  rintro _ _ ⟨a111, c111, segs, rfl, h111, rfl⟩
  refine TL.freeze (segs) rfl (fun S11 w11 hz11 => ?_)
  replace hb := hb.frz hz11
  replace h0 := h0.old hz11
  replace h1 := h1.old hz11
  replace h2 := h2.old hz11
  replace h101 := h101.old hz11
  replace h102 := h102.old hz11
  replace h103 := h103.old hz11
  replace h104 := h104.old hz11
  replace h105 := h105.old hz11
  replace h106 := h106.old hz11
  replace h107 := h107.old hz11
  replace h108 := h108.old hz11
  replace h109 := h109.old hz11
  replace h110 := h110.old hz11
  replace h111 := h111.frz hz11
  refine TL.move hF rfl rfl ?_
  refine TL.call hF (meet_tw h111 h2 ((T0).meet (T1)) T2) rfl rfl ?_
  rintro _ _ ⟨a112, c112, segs, rfl, h112, rfl⟩
  refine TL.freeze (segs) rfl (fun S12 w12 hz12 => ?_)
  replace hb := hb.frz hz12
  replace h0 := h0.old hz12
  replace h1 := h1.old hz12
  replace h2 := h2.old hz12
  replace h101 := h101.old hz12
  replace h102 := h102.old hz12
  replace h103 := h103.old hz12
  replace h104 := h104.old hz12
  replace h105 := h105.old hz12
  replace h106 := h106.old hz12
  replace h107 := h107.old hz12
  replace h108 := h108.old hz12
  replace h109 := h109.old hz12
  replace h110 := h110.old hz12
  replace h111 := h111.old hz12
  replace h112 := h112.frz hz12
  refine TL.move hF rfl rfl ?_
  refine TL.move hF rfl rfl ?_
  refine TL.move hF rfl rfl ?_
  refine TL.call hF (meet_tw h1 h2 T1 T2) rfl rfl ?_
  rintro _ _ ⟨a113, c113, segs, rfl, h113, rfl⟩
  refine TL.freeze (segs) rfl (fun S13 w13 hz13 => ?_)
  replace hb := hb.frz hz13
  replace h0 := h0.old hz13
  replace h1 := h1.old hz13
  replace h2 := h2.old hz13
  replace h101 := h101.old hz13
  replace h102 := h102.old hz13
  replace h103 := h103.old hz13
  replace h104 := h104.old hz13
  replace h105 := h105.old hz13
  replace h106 := h106.old hz13
  replace h107 := h107.old hz13
  replace h108 := h108.old hz13
  replace h109 := h109.old hz13
  replace h110 := h110.old hz13
  replace h111 := h111.old hz13
  replace h112 := h112.old hz13
  replace h113 := h113.frz hz13
  refine TL.call hF (meet_tw h0 h113 T0 ((T1).meet (T2))) rfl rfl ?_
  rintro _ _ ⟨a114, c114, segs, rfl, h114, rfl⟩
  refine TL.freeze (segs) rfl (fun S14 w14 hz14 => ?_)
  replace hb := hb.frz hz14
  replace h0 := h0.old hz14
  replace h1 := h1.old hz14
  replace h2 := h2.old hz14
  replace h101 := h101.old hz14
  replace h102 := h102.old hz14
  replace h103 := h103.old hz14
  replace h104 := h104.old hz14
  replace h105 := h105.old hz14
  replace h106 := h106.old hz14
  replace h107 := h107.old hz14
  replace h108 := h108.old hz14
  replace h109 := h109.old hz14
  replace h110 := h110.old hz14
  replace h111 := h111.old hz14
  replace h112 := h112.old hz14
  replace h113 := h113.old hz14
  replace h114 := h114.frz hz14
  refine TL.callV hF (EqT_tw h112.ro h114.ro (((((T0).meet (T1))).meet (T2))).1 (((T0).meet (((T1).meet (T2))))).1 hw4 (meet_assoc _ _ _)) rfl rfl ?_
  refine TL.not hF rfl rfl ?_
  refine TL.move hF rfl rfl ?_
  refine TL.on rfl rfl rfl (by simp) ?_
  refine TL.move hF rfl rfl ?_
  refine TL.on rfl rfl rfl (by simp) ?_
  refine TL.move hF rfl rfl ?_
  refine TL.on rfl rfl rfl (by simp) ?_
  refine TL.call hF (join_tw h0 h1 T0 T1) rfl rfl ?_
  rintro _ _ ⟨a115, c115, segs, rfl, h115, rfl⟩
  refine TL.freeze (segs) rfl (fun S15 w15 hz15 => ?_)
  replace hb := hb.frz hz15
  replace h0 := h0.old hz15
  replace h1 := h1.old hz15
  replace h2 := h2.old hz15
  replace h101 := h101.old hz15
  replace h102 := h102.old hz15
  replace h103 := h103.old hz15
  replace h104 := h104.old hz15
  replace h105 := h105.old hz15
  replace h106 := h106.old hz15
  replace h107 := h107.old hz15
  replace h108 := h108.old hz15
  replace h109 := h109.old hz15
  replace h110 := h110.old hz15
  replace h111 := h111.old hz15
  replace h112 := h112.old hz15
  replace h113 := h113.old hz15
  replace h114 := h114.old hz15
  replace h115 := h115.frz hz15
  refine TL.on rfl rfl rfl (by simp) ?_
  refine TL.move hF rfl rfl ?_
  refine TL.on rfl rfl rfl (by simp) ?_
  refine TL.call hF (join_tw h115 h2 ((T0).join (T1)) T2) rfl rfl ?_
  rintro _ _ ⟨a116, c116, segs, rfl, h116, rfl⟩
  refine TL.freeze (segs) rfl (fun S16 w16 hz16 => ?_)
  replace hb := hb.frz hz16
  replace h0 := h0.old hz16
  replace h1 := h1.old hz16
  replace h2 := h2.old hz16
  replace h101 := h101.old hz16
  replace h102 := h102.old hz16
  replace h103 := h103.old hz16
  replace h104 := h104.old hz16
  replace h105 := h105.old hz16
  replace h106 := h106.old hz16
  replace h107 := h107.old hz16
  replace h108 := h108.old hz16
  replace h109 := h109.old hz16
  replace h110 := h110.old hz16
  replace h111 := h111.old hz16
  replace h112 := h112.old hz16
  replace h113 := h113.old hz16
  replace h114 := h114.old hz16
  replace h115 := h115.old hz16
  replace h116 := h116.frz hz16
  refine TL.on rfl rfl rfl (by simp) ?_
  refine TL.move hF rfl rfl ?_
  refine TL.on rfl rfl rfl (by simp) ?_
  refine TL.move hF rfl rfl ?_
  refine TL.on rfl rfl rfl (by simp) ?_
  refine TL.move hF rfl rfl ?_
  refine TL.on rfl rfl rfl (by simp) ?_
  refine TL.call hF (join_tw h1 h2 T1 T2) rfl rfl ?_
  rintro _ _ ⟨a117, c117, segs, rfl, h117, rfl⟩
  refine TL.freeze (segs) rfl (fun S17 w17 hz17 => ?_)
  replace hb := hb.frz hz17
  replace h0 := h0.old hz17
  replace h1 := h1.old hz17
  replace h2 := h2.old hz17
  replace h101 := h101.old hz17
  replace h102 := h102.old hz17
  replace h103 := h103.old hz17
  replace h104 := h104.old hz17
  replace h105 := h105.old hz17
  replace h106 := h106.old hz17
  replace h107 := h107.old hz17
  replace h108 := h108.old hz17
  replace h109 := h109.old hz17
  replace h110 := h110.old hz17
  replace h111 := h111.old hz17
  replace h112 := h112.old hz17
  replace h113 := h113.old hz17
  replace h114 := h114.old hz17
  replace h115 := h115.old hz17
  replace h116 := h116.old hz17
  replace h117 := h117.frz hz17
  refine TL.on rfl rfl rfl (by simp) ?_
  refine TL.call hF (join_tw h0 h117 T0 ((T1).join (T2))) rfl rfl ?_
  rintro _ _ ⟨a118, c118, segs, rfl, h118, rfl⟩
  refine TL.freeze (segs) rfl (fun S18 w18 hz18 => ?_)
  replace hb := hb.frz hz18
  replace h0 := h0.old hz18
  replace h1 := h1.old hz18
  replace h2 := h2.old hz18
  replace h101 := h101.old hz18
  replace h102 := h102.old hz18
  replace h103 := h103.old hz18
  replace h104 := h104.old hz18
  replace h105 := h105.old hz18
  replace h106 := h106.old hz18
  replace h107 := h107.old hz18
  replace h108 := h108.old hz18
  replace h109 := h109.old hz18
  replace h110 := h110.old hz18
  replace h111 := h111.old hz18
  replace h112 := h112.old hz18
  replace h113 := h113.old hz18
  replace h114 := h114.old hz18
  replace h115 := h115.old hz18
  replace h116 := h116.old hz18
  replace h117 := h117.old hz18
  replace h118 := h118.frz hz18
  refine TL.on rfl rfl rfl (by simp) ?_
  refine TL.callV hF (EqT_tw h116.ro h118.ro (((((T0).join (T1))).join (T2))).1 (((T0).join (((T1).join (T2))))).1 hw4 (join_assoc _ _ _)) rfl rfl ?_
  refine TL.on rfl rfl rfl (by simp) ?_
  refine TL.not hF rfl rfl ?_
  refine TL.pickF hF rfl (by simp) rfl rfl ?_
  refine TL.move hF rfl rfl ?_
  refine TL.on rfl rfl rfl (by simp) ?_
  refine TL.move hF rfl rfl ?_
  refine TL.on rfl rfl rfl (by simp) ?_
  refine TL.move hF rfl rfl ?_
  refine TL.on rfl rfl rfl (by simp) ?_
  refine TL.move hF rfl rfl ?_
  refine TL.on rfl rfl rfl (by simp) ?_
  refine TL.call hF (meet_tw h1 h2 T1 T2) rfl rfl ?_
  rintro _ _ ⟨a119, c119, segs, rfl, h119, rfl⟩
  refine TL.freeze (segs) rfl (fun S19 w19 hz19 => ?_)
  replace hb := hb.frz hz19
  replace h0 := h0.old hz19
  replace h1 := h1.old hz19
  replace h2 := h2.old hz19
  replace h101 := h101.old hz19
  replace h102 := h102.old hz19
  replace h103 := h103.old hz19
  replace h104 := h104.old hz19
  replace h105 := h105.old hz19
  replace h106 := h106.old hz19
  replace h107 := h107.old hz19
  replace h108 := h108.old hz19
  replace h109 := h109.old hz19
  replace h110 := h110.old hz19
  replace h111 := h111.old hz19
  replace h112 := h112.old hz19
  replace h113 := h113.old hz19
  replace h114 := h114.old hz19
  replace h115 := h115.old hz19
  replace h116 := h116.old hz19
  replace h117 := h117.old hz19
  replace h118 := h118.old hz19
  replace h119 := h119.frz hz19
  refine TL.on rfl rfl rfl (by simp) ?_
  refine TL.call hF (join_tw h0 h119 T0 ((T1).meet (T2))) rfl rfl ?_
  rintro _ _ ⟨a120, c120, segs, rfl, h120, rfl⟩
  refine TL.freeze (segs) rfl (fun S20 w20 hz20 => ?_)
  replace hb := hb.frz hz20
  replace h0 := h0.old hz20
  replace h1 := h1.old hz20
  replace h2 := h2.old hz20
  replace h101 := h101.old hz20
  replace h102 := h102.old hz20
  replace h103 := h103.old hz20
  replace h104 := h104.old hz20
  replace h105 := h105.old hz20
  replace h106 := h106.old hz20
  replace h107 := h107.old hz20
  replace h108 := h108.old hz20
  replace h109 := h109.old hz20
  replace h110 := h110.old hz20
  replace h111 := h111.old hz20
  replace h112 := h112.old hz20
  replace h113 := h113.old hz20
  replace h114 := h114.old hz20
  replace h115 := h115.old hz20
  replace h116 := h116.old hz20
  replace h117 := h117.old hz20
  replace h118 := h118.old hz20
  replace h119 := h119.old hz20
  replace h120 := h120.frz hz20
  refine TL.on rfl rfl rfl (by simp) ?_
  refine TL.move hF rfl rfl ?_
  refine TL.on rfl rfl rfl (by simp) ?_
  refine TL.move hF rfl rfl ?_
  refine TL.on rfl rfl rfl (by simp) ?_
  refine TL.call hF (join_tw h0 h1 T0 T1) rfl rfl ?_
  rintro _ _ ⟨a121, c121, segs, rfl, h121, rfl⟩
  refine TL.freeze (segs) rfl (fun S21 w21 hz21 => ?_)
  replace hb := hb.frz hz21
  replace h0 := h0.old hz21
  replace h1 := h1.old hz21
  replace h2 := h2.old hz21
  replace h101 := h101.old hz21
  replace h102 := h102.old hz21
  replace h103 := h103.old hz21
  replace h104 := h104.old hz21
  replace h105 := h105.old hz21
  replace h106 := h106.old hz21
  replace h107 := h107.old hz21
  replace h108 := h108.old hz21
  replace h109 := h109.old hz21
  replace h110 := h110.old hz21
  replace h111 := h111.old hz21
  replace h112 := h112.old hz21
  replace h113 := h113.old hz21
  replace h114 := h114.old hz21
  replace h115 := h115.old hz21
  replace h116 := h116.old hz21
  replace h117 := h117.old hz21
  replace h118 := h118.old hz21
  replace h119 := h119.old hz21
  replace h120 := h120.old hz21
  replace h121 := h121.frz hz21
  refine TL.on rfl rfl rfl (by simp) ?_
  refine TL.move hF rfl rfl ?_
  refine TL.on rfl rfl rfl (by simp) ?_
  refine TL.move hF rfl rfl ?_
  refine TL.on rfl rfl rfl (by simp) ?_
  refine TL.call hF (join_tw h0 h2 T0 T2) rfl rfl ?_
  rintro _ _ ⟨a122, c122, segs, rfl, h122, rfl⟩
  refine TL.freeze (segs) rfl (fun S22 w22 hz22 => ?_)
  replace hb := hb.frz hz22
  replace h0 := h0.old hz22
  replace h1 := h1.old hz22
  replace h2 := h2.old hz22
  replace h101 := h101.old hz22
  replace h102 := h102.old hz22
  replace h103 := h103.old hz22
  replace h104 := h104.old hz22
  replace h105 := h105.old hz22
  replace h106 := h106.old hz22
  replace h107 := h107.old hz22
  replace h108 := h108.old hz22
  replace h109 := h109.old hz22
  replace h110 := h110.old hz22
  replace h111 := h111.old hz22
  replace h112 := h112.old hz22
  replace h113 := h113.old hz22
  replace h114 := h114.old hz22
  replace h115 := h115.old hz22
  replace h116 := h116.old hz22
  replace h117 := h117.old hz22
  replace h118 := h118.old hz22
  replace h119 := h119.old hz22
  replace h120 := h120.old hz22
  replace h121 := h121.old hz22
  replace h122 := h122.frz hz22
  refine TL.on rfl rfl rfl (by simp) ?_
  refine TL.call hF (meet_tw h121 h122 ((T0).join (T1)) ((T0).join (T2))) rfl rfl ?_
  rintro _ _ ⟨a123, c123, segs, rfl, h123, rfl⟩
  refine TL.freeze (segs) rfl (fun S23 w23 hz23 => ?_)
  replace hb := hb.frz hz23
  replace h0 := h0.old hz23
  replace h1 := h1.old hz23
  replace h2 := h2.old hz23
  replace h101 := h101.old hz23
  replace h102 := h102.old hz23
  replace h103 := h103.old hz23
  replace h104 := h104.old hz23
  replace h105 := h105.old hz23
  replace h106 := h106.old hz23
  replace h107 := h107.old hz23
  replace h108 := h108.old hz23
  replace h109 := h109.old hz23
  replace h110 := h110.old hz23
  replace h111 := h111.old hz23
  replace h112 := h112.old hz23
  replace h113 := h113.old hz23
  replace h114 := h114.old hz23
  replace h115 := h115.old hz23
  replace h116 := h116.old hz23
  replace h117 := h117.old hz23
  replace h118 := h118.old hz23
  replace h119 := h119.old hz23
  replace h120 := h120.old hz23
  replace h121 := h121.old hz23
  replace h122 := h122.old hz23
  replace h123 := h123.frz hz23
  refine TL.on rfl rfl rfl (by simp) ?_
  refine TL.callV hF (EqT_tw h120.ro h123.ro (((T0).join (((T1).meet (T2))))).1 (((((T0).join (T1))).meet (((T0).join (T2))))).1 hw4 (join_dist _ _ _)) rfl rfl ?_
  refine TL.on rfl rfl rfl (by simp) ?_
  refine TL.not hF rfl rfl ?_
  refine TL.pickF hF rfl (by simp) rfl rfl ?_
  refine TL.nil ?_
  refine TQ.then_n ?_
  refine T.cond_f rfl (by simp) ?_
  refine T.skip ?_
  refine TQ.then_n ?_
  refine T.seq ?_
  refine T.region ?_
  refine TL.move hF rfl rfl ?_
  refine TL.move hF rfl rfl ?_
  refine TL.call hF (less_tw h0 h1 T0 T1) rfl rfl ?_
  rintro _ _ ⟨rfl, segs, rfl⟩
  refine TL.hsub [] (List.sublist_append_right _ _) ?_
  refine TL.assign hF rfl rfl ?_
  refine TL.nil ?_
  refine TQ.then_n ?_
  refine T.seq ?_
  refine T.seq ?_
  refine T.region ?_
  refine TL.move hF rfl rfl ?_
  refine TL.move hF rfl rfl ?_
  refine TL.move hF rfl rfl ?_
  refine TL.call hF (meet_tw h0 h1 T0 T1) rfl rfl ?_
  rintro _ _ ⟨a124, c124, segs, rfl, h124, rfl⟩
  refine TL.freeze (segs) rfl (fun S24 w24 hz24 => ?_)
  replace hb := hb.frz hz24
  replace h0 := h0.old hz24
  replace h1 := h1.old hz24
  replace h2 := h2.old hz24
  replace h101 := h101.old hz24
  replace h102 := h102.old hz24
  replace h103 := h103.old hz24
  replace h104 := h104.old hz24
  replace h105 := h105.old hz24
  replace h106 := h106.old hz24
  replace h107 := h107.old hz24
  replace h108 := h108.old hz24
  replace h109 := h109.old hz24
  replace h110 := h110.old hz24
  replace h111 := h111.old hz24
  replace h112 := h112.old hz24
  replace h113 := h113.old hz24
  replace h114 := h114.old hz24
  replace h115 := h115.old hz24
  replace h116 := h116.old hz24
  replace h117 := h117.old hz24
  replace h118 := h118.old hz24
  replace h119 := h119.old hz24
  replace h120 := h120.old hz24
  replace h121 := h121.old hz24
  replace h122 := h122.old hz24
  replace h123 := h123.old hz24
  replace h124 := h124.frz hz24
  refine TL.move hF rfl rfl ?_
  refine TL.callV hF (Eq_tw h124.ro h0.ro (((T0).meet (T1))).1 (T0).1 hw4) rfl rfl ?_
  refine TL.neqB hF rfl rfl rfl ?_
  refine TL.move hF rfl rfl ?_
  refine TL.on rfl rfl rfl (by rw [tle_meet (T0.1.trans T1.1.symm)]; simp) ?_
  refine TL.move hF rfl rfl ?_
  refine TL.on rfl rfl rfl (by rw [tle_meet (T0.1.trans T1.1.symm)]; simp) ?_
  refine TL.move hF rfl rfl ?_
  refine TL.on rfl rfl rfl (by rw [tle_meet (T0.1.trans T1.1.symm)]; simp) ?_
  refine TL.move hF rfl rfl ?_
  refine TL.on rfl rfl rfl (by rw [tle_meet (T0.1.trans T1.1.symm)]; simp) ?_
  refine TL.call hF (join_tw h0 h1 T0 T1) rfl rfl ?_
  rintro _ _ ⟨a125, c125, segs, rfl, h125, rfl⟩
  refine TL.freeze (segs) rfl (fun S25 w25 hz25 => ?_)
  replace hb := hb.frz hz25
  replace h0 := h0.old hz25
  replace h1 := h1.old hz25
  replace h2 := h2.old hz25
  replace h101 := h101.old hz25
  replace h102 := h102.old hz25
  replace h103 := h103.old hz25
  replace h104 := h104.old hz25
  replace h105 := h105.old hz25
  replace h106 := h106.old hz25
  replace h107 := h107.old hz25
  replace h108 := h108.old hz25
  replace h109 := h109.old hz25
  replace h110 := h110.old hz25
  replace h111 := h111.old hz25
  replace h112 := h112.old hz25
  replace h113 := h113.old hz25
  replace h114 := h114.old hz25
  replace h115 := h115.old hz25
  replace h116 := h116.old hz25
  replace h117 := h117.old hz25
  replace h118 := h118.old hz25
  replace h119 := h119.old hz25
  replace h120 := h120.old hz25
  replace h121 := h121.old hz25
  replace h122 := h122.old hz25
  replace h123 := h123.old hz25
  replace h124 := h124.old hz25
  replace h125 := h125.frz hz25
  refine TL.on rfl rfl rfl (by rw [tle_meet (T0.1.trans T1.1.symm)]; simp) ?_
  refine TL.move hF rfl rfl ?_
  refine TL.on rfl rfl rfl (by rw [tle_meet (T0.1.trans T1.1.symm)]; simp) ?_
  refine TL.callV hF (Eq_tw h125.ro h1.ro (((T0).join (T1))).1 (T1).1 hw4) rfl rfl ?_
  refine TL.on rfl rfl rfl (by rw [tle_meet (T0.1.trans T1.1.symm)]; simp) ?_
  refine TL.neqB hF rfl rfl rfl ?_
  refine TL.pickF hF rfl (by rw [tle_meet (T0.1.trans T1.1.symm)]; simp) rfl rfl ?_
  refine TL.move hF rfl rfl ?_
  refine TL.on rfl rfl rfl (by show (tle x0 x1 != decide (tjoin x0 x1 = x1)) = false; rw [tle_join (T0.1.trans T1.1.symm)]; simp) ?_
  refine TL.move hF rfl rfl ?_
  refine TL.on rfl rfl rfl (by show (tle x0 x1 != decide (tjoin x0 x1 = x1)) = false; rw [tle_join (T0.1.trans T1.1.symm)]; simp) ?_
  refine TL.move hF rfl rfl ?_
  refine TL.gb (t := 142) rfl (fun g8_142 => ?_) (fun g8_142 => ?_)
  · refine TL.on rfl rfl rfl g8_142 ?_
    refine TL.move hF rfl rfl ?_
    refine TL.on rfl rfl rfl g8_142 ?_
    refine TL.move hF rfl rfl ?_
    refine TL.on rfl rfl rfl g8_142 ?_
    refine TL.call hF (less_tw h1 h0 T1 T0) rfl rfl ?_
    rintro _ _ ⟨rfl, segs, rfl⟩
    refine TL.hsub [] (List.sublist_append_right _ _) ?_
    refine TL.on rfl rfl rfl g8_142 ?_
    refine TL.move hF rfl rfl ?_
    refine TL.on rfl rfl rfl g8_142 ?_
    refine TL.move hF rfl rfl ?_
    refine TL.on rfl rfl rfl g8_142 ?_
    refine TL.callV hF (Eq_tw h0.ro h1.ro (T0).1 (T1).1 hw4) rfl rfl ?_
    refine TL.on rfl rfl rfl g8_142 ?_
    refine TL.neqB hF rfl rfl rfl ?_
    refine TL.on rfl rfl rfl (by show (tle x0 x1 != decide (tjoin x0 x1 = x1)) = false; rw [tle_join (T0.1.trans T1.1.symm)]; simp) ?_
    refine TL.pickT hF rfl g8_142 rfl rfl ?_
    refine TL.pickF hF rfl (by show (tle x0 x1 != decide (tjoin x0 x1 = x1)) = false; rw [tle_join (T0.1.trans T1.1.symm)]; simp) rfl rfl ?_
    refine TL.nil ?_
    refine TQ.then_n ?_
    refine T.cond_f rfl (by show (tle x1 x0 != decide (x0 = x1)) = false; rw [tle_back (T0.1.trans T1.1.symm) g8_142]; simp) ?_
    refine T.skip ?_
    refine TQ.then_n ?_
    refine T.seq ?_
    refine T.region ?_
    refine TL.move hF rfl rfl ?_
    refine TL.not hF rfl rfl ?_
    refine TL.move hF rfl rfl ?_
    refine TL.gb (t := 154) rfl (fun g10_154 => ?_) (fun g10_154 => ?_)
    · refine TL.off hF rfl rfl rfl g10_154 rfl ?_
      refine TL.off hF rfl rfl rfl g10_154 rfl ?_
      refine TL.off hF rfl rfl rfl g10_154 rfl ?_
      refine TL.off hF rfl rfl rfl g10_154 rfl ?_
      refine TL.pickT hF rfl g10_154 rfl rfl ?_
      refine TL.move hF rfl rfl ?_
      refine TL.off hF rfl rfl rfl rfl rfl ?_
      refine TL.off hF rfl rfl rfl rfl rfl ?_
      refine TL.off hF rfl rfl rfl rfl rfl ?_
      refine TL.pickT hF rfl rfl rfl rfl ?_
      refine TL.move hF rfl rfl ?_
      refine TL.on rfl rfl rfl rfl ?_
      refine TL.call hF ordered_fn rfl rfl ?_
      rintro _ _ rfl
      refine TL.pickT hF rfl rfl rfl rfl ?_
      refine TL.assign hF rfl rfl ?_
      refine TL.nil ?_
      refine TQ.then_n ?_
      refine T.ret ?_
      exact TQ.retsF [4] _ hb rfl rfl rfl (fun _ => rfl)
    · refine TL.on rfl rfl rfl g10_154 ?_
      refine TL.move hF rfl rfl ?_
      refine TL.on rfl rfl rfl g10_154 ?_
      refine TL.move hF rfl rfl ?_
      refine TL.on rfl rfl rfl g10_154 ?_
      refine TL.call hF (less_tw h1 h2 T1 T2) rfl rfl ?_
      rintro _ _ ⟨rfl, segs, rfl⟩
      refine TL.hsub [] (List.sublist_append_right _ _) ?_
      refine TL.on rfl rfl rfl g10_154 ?_
      refine TL.not hF rfl rfl ?_
      refine TL.pickF hF rfl g10_154 rfl rfl ?_
      refine TL.move hF rfl rfl ?_
      refine TL.gb (t := 160) rfl (fun g10_160 => ?_) (fun g10_160 => ?_)
      · refine TL.off hF rfl rfl rfl g10_160 rfl ?_
        refine TL.off hF rfl rfl rfl g10_160 rfl ?_
        refine TL.off hF rfl rfl rfl g10_160 rfl ?_
        refine TL.pickT hF rfl g10_160 rfl rfl ?_
        refine TL.move hF rfl rfl ?_
        refine TL.on rfl rfl rfl rfl ?_
        refine TL.call hF ordered_fn rfl rfl ?_
        rintro _ _ rfl
        refine TL.pickT hF rfl rfl rfl rfl ?_
        refine TL.assign hF rfl rfl ?_
        refine TL.nil ?_
        refine TQ.then_n ?_
        refine T.ret ?_
        exact TQ.retsF [4] _ hb rfl rfl rfl (fun _ => rfl)
      · refine TL.on rfl rfl rfl g10_160 ?_
        refine TL.move hF rfl rfl ?_
        refine TL.on rfl rfl rfl g10_160 ?_
        refine TL.move hF rfl rfl ?_
        refine TL.on rfl rfl rfl g10_160 ?_
        refine TL.call hF (less_tw h0 h2 T0 T2) rfl rfl ?_
        rintro _ _ ⟨rfl, segs, rfl⟩
        refine TL.hsub [] (List.sublist_append_right _ _) ?_
        refine TL.pickF hF rfl g10_160 rfl rfl ?_
        refine TL.move hF rfl rfl ?_
        refine TL.on rfl rfl rfl (tle_trans (T0.1.trans T1.1.symm) (T1.1.trans T2.1.symm) (by simpa using g10_154) (by simpa using g10_160)) ?_
        refine TL.call hF ordered_fn rfl rfl ?_
        rintro _ _ rfl
        refine TL.pickT hF rfl (tle_trans (T0.1.trans T1.1.symm) (T1.1.trans T2.1.symm) (by simpa using g10_154) (by simpa using g10_160)) rfl rfl ?_
        refine TL.assign hF rfl rfl ?_
        refine TL.nil ?_
        refine TQ.then_n ?_
        refine T.ret ?_
        exact TQ.retsF [4] _ hb rfl rfl rfl (fun _ => rfl)
  · refine TL.off hF rfl rfl rfl g8_142 rfl ?_
    refine TL.off hF rfl rfl rfl g8_142 rfl ?_
    refine TL.off hF rfl rfl rfl g8_142 rfl ?_
    refine TL.off hF rfl rfl rfl g8_142 rfl ?_
    refine TL.off hF rfl rfl rfl g8_142 rfl ?_
    refine TL.off hF rfl rfl rfl g8_142 rfl ?_
    refine TL.off hF rfl rfl rfl g8_142 rfl ?_
    refine TL.on rfl rfl rfl (by show (tle x0 x1 != decide (tjoin x0 x1 = x1)) = false; rw [tle_join (T0.1.trans T1.1.symm)]; simp) ?_
    refine TL.pickF hF rfl g8_142 rfl rfl ?_
    refine TL.pickF hF rfl (by show (tle x0 x1 != decide (tjoin x0 x1 = x1)) = false; rw [tle_join (T0.1.trans T1.1.symm)]; simp) rfl rfl ?_
    refine TL.nil ?_
    refine TQ.then_n ?_
    refine T.cond_f rfl rfl ?_
    refine T.skip ?_
    refine TQ.then_n ?_
    refine T.seq ?_
    refine T.region ?_
    refine TL.move hF rfl rfl ?_
    refine TL.not hF rfl rfl ?_
    refine TL.move hF rfl rfl ?_
    refine TL.gb (t := 154) rfl (fun g10_154 => ?_) (fun g10_154 => ?_)
    · refine TL.off hF rfl rfl rfl g10_154 rfl ?_
      refine TL.off hF rfl rfl rfl g10_154 rfl ?_
      refine TL.off hF rfl rfl rfl g10_154 rfl ?_
      refine TL.off hF rfl rfl rfl g10_154 rfl ?_
      refine TL.pickT hF rfl g10_154 rfl rfl ?_
      refine TL.move hF rfl rfl ?_
      refine TL.off hF rfl rfl rfl rfl rfl ?_
      refine TL.off hF rfl rfl rfl rfl rfl ?_
      refine TL.off hF rfl rfl rfl rfl rfl ?_
      refine TL.pickT hF rfl rfl rfl rfl ?_
      refine TL.move hF rfl rfl ?_
      refine TL.on rfl rfl rfl rfl ?_
      refine TL.call hF ordered_fn rfl rfl ?_
      rintro _ _ rfl
      refine TL.pickT hF rfl rfl rfl rfl ?_
      refine TL.assign hF rfl rfl ?_
      refine TL.nil ?_
      refine TQ.then_n ?_
      refine T.ret ?_
      exact TQ.retsF [4] _ hb rfl rfl rfl (fun _ => rfl)
    · refine TL.on rfl rfl rfl g10_154 ?_
      refine TL.move hF rfl rfl ?_
      refine TL.on rfl rfl rfl g10_154 ?_
      refine TL.move hF rfl rfl ?_
      refine TL.on rfl rfl rfl g10_154 ?_
      refine TL.call hF (less_tw h1 h2 T1 T2) rfl rfl ?_
      rintro _ _ ⟨rfl, segs, rfl⟩
      refine TL.hsub [] (List.sublist_append_right _ _) ?_
      refine TL.on rfl rfl rfl g10_154 ?_
      refine TL.not hF rfl rfl ?_
      refine TL.pickF hF rfl g10_154 rfl rfl ?_
      refine TL.move hF rfl rfl ?_
      refine TL.gb (t := 160) rfl (fun g10_160 => ?_) (fun g10_160 => ?_)
      · refine TL.off hF rfl rfl rfl g10_160 rfl ?_
        refine TL.off hF rfl rfl rfl g10_160 rfl ?_
        refine TL.off hF rfl rfl rfl g10_160 rfl ?_
        refine TL.pickT hF rfl g10_160 rfl rfl ?_
        refine TL.move hF rfl rfl ?_
        refine TL.on rfl rfl rfl rfl ?_
        refine TL.call hF ordered_fn rfl rfl ?_
        rintro _ _ rfl
        refine TL.pickT hF rfl rfl rfl rfl ?_
        refine TL.assign hF rfl rfl ?_
        refine TL.nil ?_
        refine TQ.then_n ?_
        refine T.ret ?_
        exact TQ.retsF [4] _ hb rfl rfl rfl (fun _ => rfl)
      · refine TL.on rfl rfl rfl g10_160 ?_
        refine TL.move hF rfl rfl ?_
        refine TL.on rfl rfl rfl g10_160 ?_
        refine TL.move hF rfl rfl ?_
        refine TL.on rfl rfl rfl g10_160 ?_
        refine TL.call hF (less_tw h0 h2 T0 T2) rfl rfl ?_
        rintro _ _ ⟨rfl, segs, rfl⟩
        refine TL.hsub [] (List.sublist_append_right _ _) ?_
        refine TL.pickF hF rfl g10_160 rfl rfl ?_
        refine TL.move hF rfl rfl ?_
        refine TL.on rfl rfl rfl (tle_trans (T0.1.trans T1.1.symm) (T1.1.trans T2.1.symm) (by simpa using g10_154) (by simpa using g10_160)) ?_
        refine TL.call hF ordered_fn rfl rfl ?_
        rintro _ _ rfl
        refine TL.pickT hF rfl (tle_trans (T0.1.trans T1.1.symm) (T1.1.trans T2.1.symm) (by simpa using g10_154) (by simpa using g10_160)) rfl rfl ?_
        refine TL.assign hF rfl rfl ?_
        refine TL.nil ?_
        refine TQ.then_n ?_
        refine T.ret ?_
        exact TQ.retsF [4] _ hb rfl rfl rfl (fun _ => rfl)
end Go.Proofs.YteimjjpigohnhaaGreat
namespace Go.Proofs.YteimjjpigohnhaaGreat
open Go.Sl Go.ChangeShapes Go.WideShapes Go.ChangeAt Go.RowKit 
set_option maxRecDepth 100000 in
theorem orderLattice_lifted (os : Os) (started : os.Started) (H : Type) (enc : TypeId × Value → H) :
    ReturnsInHanded {} Tryz.checked os 9 .any (Rows.orderLatticeSpec.pre6 enc Tryz.prog Tryz.f9 Rows.orderLatticeRow.domain false) (Rows.orderLatticeSpec.post enc Tryz.prog Tryz.f9 false true false false) := by
  refine returnsInHanded_of_change (C := Tryz.checked) Tryz.own started (by kernel_rfl) Tryz.func9
    (ChangeSpec.witness6 (enc := enc) (C := Tryz.checked) false ⟨#[], #[.agg #[.int .i64 0, .int .i64 0, .int .i64 0], .int .i64 0], []⟩ 8 (by kernel_rfl) (by kernel_rfl) (by kernel_rfl) (by kernel_rfl)) ?_
  intro W base args ds gs before hval hW hcnd _
  have hW' := hW
  obtain ⟨p, q, hA0, hV, rfl, hfz, hnd⟩ := hW
  have hA : DataW.TrodAll enc Tryz.prog W 0 (fun _ => true) true [52, 3] args.toList ds p := hA0
  have hval' : ∀ (j : Nat) t v, (#[52, 3] : Array TypeId)[j]? = some t → args[j]? = some v → Value.okWide Tryz.prog W .any base t v := hval
  obtain ⟨v0, v1, d0, d1, p0, p1, rfl, rfl, rfl, h0, h1⟩ := trodAll_two hA
  obtain ⟨n0, m0, o0, rfl, wn0, wm0, wo0⟩ := arr3_open (hval' 0 52 v0 rfl rfl) h0
  obtain ⟨z1, rfl, _, _, wz1⟩ := open_int u3 (hval' 1 3 v1 rfl rfl) h1
  have wz1 := wf_i64 wz1
  refine (calls_true (OrderLattice_fn wn0 wm0 wo0 wz1)).mono fun e W' ⟨he, hw⟩ => ⟨_, he, ?_⟩
  exact law_post (f := Tryz.f9) Tryz.laidOut rfl 4 rfl u4 hW' rfl (by decide +kernel) hw
theorem orderLattice_holds : Rows.OrderLatticeSaid :=
  OpenClaim.holds_of_wide 9 Tryz.f9 rfl rfl rfl rfl rfl rfl rfl ⟨rfl, rfl, rfl, rfl, rfl⟩ rfl rfl rfl rfl rfl (by kernel_rfl) Tryz.func9 (by kernel_rfl)
    (of_decide_eq_true (by kernel_rfl)) (by unfold Func.isWrapper; first | (rw [if_pos (by decide +kernel)]; kernel_rfl) | (rw [if_neg (by decide +kernel)]; exact ⟨rfl, rfl⟩))
    (fun os started H enc _ => orderLattice_lifted os started H enc)
#print axioms orderLattice_holds
end Go.Proofs.YteimjjpigohnhaaGreat
