/- The firsts and the lasts of times: for every input. No condition. -/
import Derived.Test.YteimjjpigohnhaaGreatRf
import Derived.Test.YteimjjpigohnhaaGreatRows
/- Times that fit: what functions make of them. -/
namespace Go.Proofs.YteimjjpigohnhaaGreat
open Go.Sl
/-- A time of so many numbers. -/
def Tw (w : Nat) (t : Tm) : Prop := t.length = w ∧ isT t = true
def Tws (w : Nat) (l : List Tm) : Prop := ∀ x ∈ l, Tw w x
theorem Tws.wid {w : Nat} {l : List Tm} (h : Tws w l) : Wid w l := fun x hx => (h x hx).1
theorem isT_iff {t : Tm} : isT t = true ↔ (1 ≤ t.length ∧ t.length ≤ 4) ∧ ∀ n ∈ t, 0 ≤ n ∧ n ≤ 1073741824 := by simp [isT]
theorem tw_tmI {w : Nat} (h1 : 1 ≤ w) (h4 : w ≤ 4) (n : Int) : Tw w (tmI w n) := ⟨tmI_len w n, isT_iff.2 ⟨by rw [tmI_len]; exact ⟨h1, h4⟩, fun x hx => by have := tmI_range w n x hx; omega⟩⟩
theorem tws_tms {w : Nat} (h1 : 1 ≤ w) (h4 : w ≤ 4) (l : List Int) (k : Nat) : Tws w (tmsI l w k) := fun x hx => by
  obtain ⟨n, _, rfl⟩ := List.mem_map.1 hx
  exact tw_tmI h1 h4 n
theorem tmsI_len (l : List Int) (w k : Nat) : (tmsI l w k).length ≤ k := by unfold tmsI; rw [List.length_map, List.length_take]; omega
theorem Tws.nil (w : Nat) : Tws w [] := fun _ h => by simp at h
theorem Tws.one {w : Nat} {t : Tm} (h : Tw w t) : Tws w [t] := fun x hx => by rw [List.mem_singleton.1 hx]; exact h
theorem Tws.app {w : Nat} {l m : List Tm} (h : Tws w l) (h2 : Tws w m) : Tws w (l ++ m) := fun x hx => (List.mem_append.1 hx).elim (h x) (h2 x)
theorem Tws.sub {w : Nat} {l m : List Tm} (h : Tws w l) (hm : ∀ x ∈ m, x ∈ l) : Tws w m := fun x hx => h x (hm x hx)
theorem Tws.firsts {w : Nat} {l : List Tm} (h : Tws w l) : Tws w (firstsT l) := h.sub fun _ hx => (mem_outT.1 hx).1
theorem Tws.lasts {w : Nat} {l : List Tm} (h : Tws w l) : Tws w (lastsT l) := h.sub fun _ hx => (mem_outT.1 hx).1
theorem join_range : ∀ {a b : Tm}, (∀ n ∈ a, 0 ≤ n ∧ n ≤ 1073741824) → (∀ n ∈ b, 0 ≤ n ∧ n ≤ 1073741824) → ∀ n ∈ tjoin a b, 0 ≤ n ∧ n ≤ 1073741824
  | [], _, _, _, n, h => by simp [tjoin] at h
  | _ :: _, [], _, _, n, h => by simp [tjoin] at h
  | x :: a, y :: b, ha, hb, n, h => by
    have hx := ha x List.mem_cons_self
    have hy := hb y List.mem_cons_self
    simp only [tjoin, List.zipWith_cons_cons, List.mem_cons] at h
    rcases h with rfl | h
    · omega
    · exact join_range (fun n hn => ha n (List.mem_cons_of_mem _ hn)) (fun n hn => hb n (List.mem_cons_of_mem _ hn)) n h
theorem meet_range : ∀ {a b : Tm}, (∀ n ∈ a, 0 ≤ n ∧ n ≤ 1073741824) → (∀ n ∈ b, 0 ≤ n ∧ n ≤ 1073741824) → ∀ n ∈ tmeet a b, 0 ≤ n ∧ n ≤ 1073741824
  | [], _, _, _, n, h => by simp [tmeet] at h
  | _ :: _, [], _, _, n, h => by simp [tmeet] at h
  | x :: a, y :: b, ha, hb, n, h => by
    have hx := ha x List.mem_cons_self
    have hy := hb y List.mem_cons_self
    simp only [tmeet, List.zipWith_cons_cons, List.mem_cons] at h
    rcases h with rfl | h
    · omega
    · exact meet_range (fun n hn => ha n (List.mem_cons_of_mem _ hn)) (fun n hn => hb n (List.mem_cons_of_mem _ hn)) n h
theorem Tw.join {w : Nat} {a b : Tm} (ha : Tw w a) (hb : Tw w b) : Tw w (tjoin a b) := by
  have h1 := isT_iff.1 ha.2; have h2 := isT_iff.1 hb.2
  have e : (tjoin a b).length = w := by rw [tjoin_len (ha.1.trans hb.1.symm), ha.1]
  exact ⟨e, isT_iff.2 ⟨by rw [e, ← ha.1]; exact h1.1, join_range h1.2 h2.2⟩⟩
theorem Tw.meet {w : Nat} {a b : Tm} (ha : Tw w a) (hb : Tw w b) : Tw w (tmeet a b) := by
  have h1 := isT_iff.1 ha.2; have h2 := isT_iff.1 hb.2
  have e : (tmeet a b).length = w := by rw [tmeet_len (ha.1.trans hb.1.symm), ha.1]
  exact ⟨e, isT_iff.2 ⟨by rw [e, ← ha.1]; exact h1.1, meet_range h1.2 h2.2⟩⟩
theorem Tws.joins {w : Nat} {f g : List Tm} (hf : Tws w f) (hg : Tws w g) : Tws w (joinsT f g) := fun x hx => by
  obtain ⟨y, hy, hx2⟩ := List.mem_flatMap.1 hx
  obtain ⟨z, hz, rfl⟩ := List.mem_map.1 hx2
  exact (hf y hy).join (hg z hz)
theorem joinsT_len (f g : List Tm) : (joinsT f g).length = f.length * g.length := by unfold joinsT; exact flat_len g.length _ (fun x => by simp) f
theorem Tws.fit {w : Nat} {l : List Tm} (h : Tws w l) : fitT l = true := by
  cases l with
  | nil => rfl
  | cons t r =>
    unfold fitT fitW
    rw [List.all_eq_true]
    intro x hx
    have h1 := h x hx; have h2 := h t List.mem_cons_self
    rw [Bool.and_eq_true]
    exact ⟨h1.2, decide_eq_true (by rw [h1.1]; exact h2.1.symm)⟩
theorem Tws.times {w : Nat} {l : List Tm} (h : Tws w l) (hl : l.length ≤ 200) : timesE l = 0 := by unfold timesE; rw [if_neg (by omega), if_pos h.fit]
theorem Tws.front {w : Nat} {f g m : List Tm} (hf : Tws w f) (hg : Tws w g) (hm : Tws w m) (h1 : f.length ≤ 200) (h2 : g.length ≤ 200) (h3 : m.length ≤ 200) (e1 : f = firstsT f) (e2 : g = firstsT g) : frontE f g m = 0 := by
  unfold frontE
  rw [if_neg (by omega), if_pos ((hf.app hg).app hm).fit, if_pos ⟨e1, e2⟩]
theorem firsts_self {w : Nat} {l : List Tm} (h : Wid w l) : firstsT l = firstsT (firstsT l) := (fr_firsts h).firsts.symm
theorem firsts_nil : ([] : List Tm) = firstsT [] := rfl
theorem lessB_tw {w : Nat} {a b : Tm} (ha : Tw w a) (hb : Tw w b) : lessB a b = tle a b := by
  have h : fitT [a, b] = true := Tws.fit (w := w) fun x hx => by
    simp only [List.mem_cons, List.not_mem_nil, or_false] at hx
    rcases hx with rfl | rfl
    · exact ha
    · exact hb
  unfold lessB lessS
  rw [if_pos h]; simp
theorem meetS_tw {w : Nat} {a b : Tm} (ha : Tw w a) (hb : Tw w b) : meetS a b = (tmeet a b, 0) := by
  have h : fitT [a, b] = true := Tws.fit (w := w) fun x hx => by
    simp only [List.mem_cons, List.not_mem_nil, or_false] at hx
    rcases hx with rfl | rfl
    · exact ha
    · exact hb
  unfold meetS; rw [if_pos h]
theorem joinS_tw {w : Nat} {a b : Tm} (ha : Tw w a) (hb : Tw w b) : joinS a b = (tjoin a b, 0) := by
  have h : fitT [a, b] = true := Tws.fit (w := w) fun x hx => by
    simp only [List.mem_cons, List.not_mem_nil, or_false] at hx
    rcases hx with rfl | rfl
    · exact ha
    · exact hb
  unfold joinS; rw [if_pos h]
theorem firstsS_tw {w : Nat} {l : List Tm} (h : Tws w l) (hl : l.length ≤ 200) : firstsS l = (firstsT l, 0) := by unfold firstsS; rw [if_pos (h.times hl)]
theorem lastsS_tw {w : Nat} {l : List Tm} (h : Tws w l) (hl : l.length ≤ 200) : lastsS l = (lastsT l, 0) := by unfold lastsS; rw [if_pos (h.times hl)]
theorem beyondS_tw {w : Nat} {f : List Tm} {t : Tm} (hf : Tws w f) (ht : Tw w t) (hl : f.length ≤ 200) (e : f = firstsT f) : beyondS f t = (pastT f t, 0) := by unfold beyondS; rw [if_pos (hf.front (Tws.nil w) (Tws.one ht) hl (by simp) (by simp) e firsts_nil)]
theorem seenS_tw {w : Nat} {f : List Tm} {t : Tm} (hf : Tws w f) (ht : Tw w t) (hl : f.length ≤ 200) (e : f = firstsT f) (hn : f ≠ []) : seenS f t = (standsT f t, 0) := by unfold seenS; rw [if_pos (hf.front (Tws.nil w) (Tws.one ht) hl (by simp) (by simp) e firsts_nil), if_neg hn]
theorem aheadS_tw {w : Nat} {f g : List Tm} (hf : Tws w f) (hg : Tws w g) (hl : f.length ≤ 200) (hl2 : g.length ≤ 200) (e : f = firstsT f) (e2 : g = firstsT g) : aheadS f g = (aheadT f g, 0) := by unfold aheadS; rw [if_pos (hf.front hg (Tws.nil w) hl hl2 (by simp) e e2)]
theorem eitherS_tw {w : Nat} {f g : List Tm} (hf : Tws w f) (hg : Tws w g) (hl : f.length ≤ 200) (hl2 : g.length ≤ 200) (e : f = firstsT f) (e2 : g = firstsT g) : eitherS f g = (firstsT (f ++ g), 0) := by unfold eitherS; rw [if_pos (hf.front hg (Tws.nil w) hl hl2 (by simp) e e2)]
theorem bothS_tw {w : Nat} {f g : List Tm} (hf : Tws w f) (hg : Tws w g) (hl : f.length ≤ 200) (hl2 : g.length ≤ 200) (e : f = firstsT f) (e2 : g = firstsT g) : bothS f g = (firstsT (joinsT f g), 0) := by unfold bothS; rw [if_pos (hf.front hg (Tws.nil w) hl hl2 (by simp) e e2)]
theorem past_joins {w : Nat} {f g : List Tm} (hf : Wid w f) (hg : Wid w g) {t : Tm} (ht : t.length = w) : pastT (joinsT f g) t = (pastT f t && pastT g t) := by
  rw [Bool.eq_iff_iff, Bool.and_eq_true, pastT_iff, pastT_iff, pastT_iff]
  constructor
  · rintro ⟨o, ho, hl⟩
    obtain ⟨y, hy, hx2⟩ := List.mem_flatMap.1 ho
    obtain ⟨z, hz, rfl⟩ := List.mem_map.1 hx2
    have h := (join_le ((hf y hy).trans (hg z hz).symm) ((hg z hz).trans ht.symm)).1 hl
    exact ⟨⟨y, hy, h.1⟩, ⟨z, hz, h.2⟩⟩
  · rintro ⟨⟨y, hy, h1⟩, ⟨z, hz, h2⟩⟩
    exact ⟨tjoin y z, List.mem_flatMap.2 ⟨y, hy, List.mem_map.2 ⟨z, hz, rfl⟩⟩, (join_le ((hf y hy).trans (hg z hz).symm) ((hg z hz).trans ht.symm)).2 ⟨h1, h2⟩⟩
theorem past_app (f g : List Tm) (t : Tm) : pastT (f ++ g) t = (pastT f t || pastT g t) := by unfold pastT; rw [List.any_append]
theorem past_self {f : List Tm} {t : Tm} (h : t ∈ f) : pastT f t = true := pastT_iff.2 ⟨t, h, tle_refl t⟩
theorem wid_joins {w : Nat} {f g : List Tm} (hf : Wid w f) (hg : Wid w g) : Wid w (joinsT f g) := fun x hx => by
  obtain ⟨y, hy, hx2⟩ := List.mem_flatMap.1 hx
  obtain ⟨z, hz, rfl⟩ := List.mem_map.1 hx2
  rw [tjoin_len ((hf y hy).trans (hg z hz).symm), hf y hy]
/-- The laws of two frontiers. -/
theorem absorb {w : Nat} {f g : List Tm} (hf : Fr w f) (hg : Fr w g) : firstsT (joinsT f (firstsT (f ++ g))) = f := by
  have hw : Wid w (f ++ g) := fun x hx => (List.mem_append.1 hx).elim (hf.wid x) (hg.wid x)
  have he := fr_firsts hw
  have hj := wid_joins hf.wid he.wid
  refine (fr_firsts hj).ext hf (fun t ht => ?_) (fun t ht => ?_)
  · have h1 := past_self ht
    have hl := (fr_firsts hj).wid t ht
    rw [past_firsts hj hl, past_joins hf.wid he.wid hl, Bool.and_eq_true] at h1
    exact h1.1
  · have hl := hf.wid t ht
    rw [past_firsts hj hl, past_joins hf.wid he.wid hl, past_firsts hw hl, past_app, past_self ht]; rfl
theorem ahead_either {w : Nat} {f g : List Tm} (hf : Fr w f) (hg : Fr w g) : aheadT f g = decide (firstsT (f ++ g) = f) := by
  have hw : Wid w (f ++ g) := fun x hx => (List.mem_append.1 hx).elim (hf.wid x) (hg.wid x)
  rw [Bool.eq_iff_iff, decide_eq_true_eq]
  unfold aheadT
  rw [List.all_eq_true]
  constructor
  · intro h
    refine (fr_firsts hw).ext hf (fun t ht => ?_) (fun t ht => ?_)
    · rcases List.mem_append.1 (mem_outT.1 ht).1 with h1 | h1
      · exact past_self h1
      · exact h t h1
    · rw [past_firsts hw (hf.wid t ht), past_app, past_self ht]; rfl
  · intro e t ht
    have hl := hg.wid t ht
    have h1 : pastT (firstsT (f ++ g)) t = true := by rw [past_firsts hw hl, past_app, past_self ht, Bool.or_true]
    rw [e] at h1; exact h1
theorem ahead_both {w : Nat} {f g : List Tm} (hf : Fr w f) (hg : Fr w g) : aheadT f g = decide (firstsT (joinsT f g) = g) := by
  have hj := wid_joins hf.wid hg.wid
  rw [Bool.eq_iff_iff, decide_eq_true_eq]
  unfold aheadT
  rw [List.all_eq_true]
  constructor
  · intro h
    refine (fr_firsts hj).ext hg (fun t ht => ?_) (fun t ht => ?_)
    · have h1 := past_self ht
      have hl := (fr_firsts hj).wid t ht
      rw [past_firsts hj hl, past_joins hf.wid hg.wid hl, Bool.and_eq_true] at h1
      exact h1.2
    · have hl := hg.wid t ht
      rw [past_firsts hj hl, past_joins hf.wid hg.wid hl, past_self ht, h t ht]; rfl
  · intro e t ht
    have hl := hg.wid t ht
    have h1 : pastT (firstsT (joinsT f g)) t = true := by rw [e]; exact past_self ht
    rw [past_firsts hj hl, past_joins hf.wid hg.wid hl, Bool.and_eq_true] at h1
    exact h1.1
/-! Where one stands. -/
theorem le_stands {w : Nat} {f : List Tm} (hn : f ≠ []) (hf : Wid w f) {t c : Tm} (ht : t.length = w) (hc : c.length = w) : tle c (standsT f t) = true ↔ ∀ o ∈ f, tle c (tjoin o t) = true := by
  cases f with
  | nil => exact absurd rfl hn
  | cons o r =>
    have ho := hf o List.mem_cons_self
    have hr : Wid w r := fun y hy => hf y (List.mem_cons_of_mem _ hy)
    have e : standsT (o :: r) t = (r.map fun x => tjoin x t).foldl tmeet (tjoin o t) := by
      show r.foldl (fun s o => tmeet s (tjoin o t)) (tjoin o t) = _
      rw [List.foldl_map]
    rw [e, le_fold hc _ _ (fun y hy => by obtain ⟨z, hz, rfl⟩ := List.mem_map.1 hy; rw [tjoin_len ((hr z hz).trans ht.symm), hr z hz]) (by rw [tjoin_len (ho.trans ht.symm), ho])]
    simp
theorem stands_le {w : Nat} {f : List Tm} (hn : f ≠ []) (hf : Wid w f) {t c : Tm} (ht : t.length = w) (hc : c.length = w) : tle (standsT f t) c = true ↔ tle (meetT f) c = true ∧ tle t c = true := by
  rw [stands_eq hn, join_le ((meetT_len hn hf).trans ht.symm) (ht.trans hc.symm)]
theorem meetT_le {w : Nat} {f : List Tm} (hn : f ≠ []) (hf : Wid w f) {o : Tm} (ho : o ∈ f) : tle (meetT f) o = true := (le_meetT hn hf (meetT_len hn hf)).1 (tle_refl _) o ho
end Go.Proofs.YteimjjpigohnhaaGreat
/- Lists of times that the laws make and compare. -/
namespace Go.Proofs.YteimjjpigohnhaaGreat
open Go.Sl
variable {S : Nat → Prop} {w0 : World} {η : Heap}
theorem times_ll {a : Option Addr} {l : List Int} {c wide most : Nat} (hx : Row S w0 [] a (ints l)) (hl : l.length < 2 ^ 63) (hw : ∀ x ∈ l, W64 x) (hwd : wide < 1000) (hm : most < 1000) : Rt Tryz.prog 58 [.slice a l.length c, .int .i64 (wide : Int), .int .i64 (most : Int)].toArray S w0 η (fun v η' => ∃ a' cap ps segs, v = .slice a' ps.length cap ∧ tx ps = tmsI l wide most ∧ LL S w0 segs a' ps ∧ η' = segs ++ η) := by
  refine (times_fn (c := c) hx hl hw hwd hm).mono ?_
  rintro v η' ⟨a', cap, outs, og, rfl, hol, hto, rfl⟩
  exact ⟨a', cap, outs.map (·.1), og :: outs.reverse.map (·.2), by rw [List.length_map], by rw [← hto]; simp [tx, List.map_map, Function.comp_def], hol.ll List.mem_cons_self (fun t ht => List.mem_cons_of_mem _ (List.mem_map_of_mem (List.mem_reverse.2 ht))), rfl⟩
theorem among_true {a b : Option Addr} {ps qs : List HL} {c d : Nat} (hx : LL S w0 η a ps) (hy : LL S w0 η b qs) (hl : ps.length < 2 ^ 63) (hl2 : qs.length < 2 ^ 63) (hlx : ∀ p ∈ ps, p.2.1.length < 2 ^ 63) (hs : ∀ x ∈ tx ps, x ∈ tx qs) : Rt Tryz.prog 51 [.slice a ps.length c, .slice b qs.length d].toArray S w0 η (fun v η' => v = .bool true ∧ η' = η) := by
  have h := among_fn (c := c) (d := d) hx hy hl hl2 hlx
  have e : ((tx ps).all fun x => (tx qs).any fun y => decide (x = y)) = true := by
    rw [List.all_eq_true]
    intro x hx
    rw [List.any_eq_true]
    exact ⟨x, hs x hx, decide_eq_true rfl⟩
  rw [e] at h; exact h
theorem apart_true {a : Option Addr} {ps : List HL} {c w : Nat} (hx : LL S w0 η a ps) (hl : ps.length < 65536) (hw : ∀ p ∈ ps, p.2.1.length = w) (hw4 : w ≤ 4) (he : tx ps = firstsT (tx ps)) : Rt Tryz.prog 52 [.slice a ps.length c].toArray S w0 η (fun v η' => v = .bool true ∧ ∃ segs, η' = segs ++ η) := by
  have h := apart_fn (c := c) hx hl hw hw4
  rw [decide_eq_true he] at h; exact h
theorem tx_length {ps : List HL} {L : List Tm} (h : tx ps = L) : ps.length = L.length := by rw [← h, tx_len]
theorem tx_wid {ps : List HL} {L : List Tm} {w : Nat} (h : tx ps = L) (hw : Wid w L) : ∀ p ∈ ps, p.2.1.length = w := wid_tx (h ▸ hw)
theorem Tws.good {w : Nat} {L : List Tm} (h : Tws w L) (hw4 : w ≤ 4) (hl : L.length ≤ 200) : GoodL L := ⟨by omega, fun x hx => by rw [(h x hx).1]; exact hw4⟩
theorem wide_nat (z : Int) : ∃ w : Nat, 1 + turnI z 4 = (w : Int) ∧ 1 ≤ w ∧ w ≤ 4 := by
  have h := turnI_range z (m := 4) (by decide)
  exact ⟨(1 + turnI z 4).toNat, by omega, by omega, by omega⟩
end Go.Proofs.YteimjjpigohnhaaGreat
/- Firsts and lasts of times that numbers make. -/
namespace Go.Proofs.YteimjjpigohnhaaGreat
open Go.Sl
variable {S : Nat → Prop} {w0 : World} {η : Heap}
set_option maxRecDepth 8000
set_option maxHeartbeats 2000000 in
theorem OrderFirsts_fn {a : Option Addr} {xs : List Int} {c : Nat} {wide turn : Int} (hx : Row S w0 [] a (ints xs)) (hl : xs.length < 2 ^ 63) (hw : Wd xs) (_ : W64 wide) (_ : W64 turn) :
    Rt Tryz.prog 10 [.slice a xs.length c, .int .i64 wide, .int .i64 turn].toArray S w0 [] (fun v _ => v = .bool true) := by
  have hF := open_wide
  refine Rt.of (fn := Tryz.f10) Tryz.func10 rfl rfl ?_
  refine T.seq ?_
  refine T.region ?_
  refine TL.assign hF rfl rfl ?_
  refine TL.nil ?_
  refine TQ.then_n ?_
  refine T.seq ?_
  refine T.region ?_
  refine TL.move hF rfl rfl ?_
  refine TL.callV hF (Turn_fn wide (m := 4) (by decide)) rfl rfl ?_
  have hb := Back.refl S w0
  obtain ⟨w, hwe, hw1, hw4⟩ := wide_nat wide
  refine TL.addK hF rfl rfl (r := (w : Int)) (by rw [hwe]; exact wrap_i64 (by omega) (by omega)) rfl ?_
  refine TL.assign hF rfl rfl ?_
  refine TL.nil ?_
  refine TQ.then_n ?_
  refine T.seq ?_
  refine T.region ?_
  refine TL.move hF rfl rfl ?_
  refine TL.move hF rfl rfl ?_
  refine TL.call hF (times_ll (most := 30) hx hl hw (by omega) (by omega)) rfl rfl ?_
  rintro _ _ ⟨a8, c8, p8, segs, rfl, t8, h8, rfl⟩
  refine TL.freeze (segs) rfl (fun S1 w1 hz1 => ?_)
  replace hb := hb.frz hz1
  replace hx := hx.old hz1
  replace h8 := h8.frz hz1
  have hT : Tws w (tmsI xs w 30) := tws_tms hw1 hw4 xs 30
  have hTl : (tmsI xs w 30).length ≤ 30 := tmsI_len xs w 30
  have hpl := tx_length t8
  have hpw := tx_wid t8 hT.wid
  have hWd := hT.wid
  refine TL.assign hF rfl rfl ?_
  refine TL.nil ?_
  refine TQ.then_n ?_
  refine T.seq ?_
  refine T.region ?_
  refine TL.buildSlice hF rfl (cs := #[]) (e := 22) (fun w => by kernel_rfl) rfl (fun b30 => ?_)
  refine TL.move hF rfl rfl ?_
  refine TL.append hF 0 rfl rfl rfl osl_empty (h8.row.ro (η' := _)).src rfl (by simp [Value.cells]) (hc1 _) (by omega) (by omega) rfl (fun a9 c9 s9 ho9 => ?_)
  rw [Nat.zero_add, List.nil_append] at ho9
  rw [Nat.zero_add]
  refine TL.assign hF rfl rfl ?_
  refine TL.nil ?_
  refine TQ.then_n ?_
  refine T.seq ?_
  refine T.seq ?_
  refine T.region ?_
  refine TL.assign hF rfl rfl ?_
  refine TL.nil ?_
  refine TQ.then_n ?_
  refine T.block ?_
  obtain ⟨tv, htv, htv2⟩ : ∃ tv : Nat, turnI turn 30 = (tv : Int) ∧ tv < 30 := by
    have h := turnI_range turn (m := 30) (by decide)
    exact ⟨(turnI turn 30).toNat, by omega, by omega⟩
  refine T.loop (ι := Nat × List HL × Seg) (fun i => match i with | (k, ts, og) => k ≤ p8.length ∧ ts.length = p8.length ∧ (∀ t ∈ ts, t ∈ p8) ∧ OSl 22 1 (.slice a9 p8.length c9) p8.length (ts.map hc) og) (fun i => match i with | (k, ts, og) => [(2, .int .i64 turn), (6, .bool false), (8, .slice a8 p8.length c8), (9, .slice a9 p8.length c9), (10, .int .i64 (k : Int))]) (fun i => match i with | (k, ts, og) => [og]) (fun i => p8.length - i.1) (0, p8, s9) ⟨Nat.zero_le _, rfl, fun _ h => h, ho9⟩ ⟨rfl, rfl, rfl, rfl, rfl, trivial⟩ rfl ?_
  rintro ⟨k, ts, og⟩ ⟨hk, htl, htm, ho⟩
  refine T.seq ?_
  refine T.seq ?_
  refine T.region ?_
  refine TL.move hF rfl rfl ?_
  refine TL.move hF rfl rfl ?_
  refine TL.len hF rfl rfl ?_
  refine TL.bin hF rfl rfl rfl rfl ?_
  refine TL.nil ?_
  refine TQ.then_n ?_
  first | refine T.cond_d rfl (fun ht36 => ?_) (fun ht36 => ?_) | refine T.cond _ rfl (fun ht36 => ?_) (fun ht36 => ?_)
  · refine T.skip ?_
    refine TQ.then_n ?_
    refine T.seq ?_
    refine T.block ?_
    refine T.region ?_
    refine TL.move hF rfl rfl ?_
    refine TL.move hF rfl rfl ?_
    refine TL.move hF rfl rfl ?_
    refine TL.move hF rfl rfl ?_
    refine TL.move hF rfl rfl ?_
    refine TL.callV hF (Turn_fn turn (m := 30) (by decide)) rfl rfl ?_
    have hkl : k < p8.length := by omega
    refine TL.addK hF rfl rfl (r := ((k + tv : Nat) : Int)) (by rw [htv, show (k : Int) + (tv : Int) = ((k + tv : Nat) : Int) by omega]; exact wrap_i64 (by omega) (by omega)) rfl ?_
    refine TL.move hF rfl rfl ?_
    refine TL.len hF rfl rfl ?_
    refine TL.remN hF (a := k + tv) (b := p8.length) rfl rfl (by omega) rfl ?_
    have hml : (k + tv) % p8.length < p8.length := Nat.mod_lt _ (by omega)
    generalize (k + tv) % p8.length = m at hml ⊢
    refine TL.indexAddr hF rfl rfl (h8.ad (i := m) hml) (by omega) (by omega) rfl ?_
    refine TL.load hF rfl (h8.ro.at (i := m) hml) rfl ?_
    obtain ⟨g, cap, cur, hv, rfl, hsz⟩ := ho.ex (by omega)
    simp only [Value.slice.injEq, true_and] at hv
    obtain ⟨rfl, rfl⟩ := hv
    refine TL.indexAddr hF rfl rfl ⟨_, rfl, rfl⟩ (by omega) (by omega) rfl ?_
    refine TL.storeI hF 0 rfl rfl rfl rfl (by have := hsz; simp; omega) ?_
    refine TL.nil ?_
    refine TQ.block_n ?_
    refine TQ.then_n ?_
    refine T.region ?_
    refine TL.move hF rfl rfl ?_
    refine TL.add hF rfl rfl (by omega) (by omega) rfl ?_
    refine TL.assign hF rfl rfl ?_
    refine TL.nil ?_
    refine TQ.round (k + 1, ts.set k p8[m], [(g, .cells (cur.setIfInBounds k (hc p8[m])) 22 (0, 0))]) ⟨by omega, by rw [List.length_set]; exact htl, fun t ht => ?_, ?_⟩ (by dsimp only; omega) ⟨rfl, rfl, rfl, rfl, rfl, trivial⟩ (by simp)
    · rcases List.mem_or_eq_of_mem_set ht with h | h
      · exact htm t h
      · rw [h]; exact List.getElem_mem hml
    · rw [List.map_set]; exact ho.put
  · refine T.exit ?_
    refine TQ.then_x ?_
    refine TQ.then_x ?_
    refine TQ.block_x ?_
    refine TQ.then_n ?_
    refine T.seq ?_
    refine T.region ?_
    refine TL.move hF rfl rfl ?_
    refine TL.move hF rfl rfl ?_
    have hkn : k = p8.length := by omega
    refine TL.append hF 0 rfl rfl rfl ho (h8.row.ro (η' := _)).src rfl (by simp) (hc1 _) (by omega) (by omega) rfl (fun a10 c10 s10 ho10 => ?_)
    rw [← List.map_append] at ho10
    have hql : (ts ++ p8).length = p8.length + p8.length := by rw [List.length_append, htl]
    rw [← hql] at ho10 ⊢
    have hqm : ∀ p ∈ ts ++ p8, p ∈ p8 := fun p hp => (List.mem_append.1 hp).elim (htm p) id
    have h10 : LL S1 w1 [s10] a10 (ts ++ p8) := ⟨ho10.row List.mem_cons_self, fun p hp => h8.ro.item p (hqm p hp)⟩
    have hqe : ∀ x, x ∈ tx (ts ++ p8) ↔ x ∈ (tmsI xs w 30) := fun x => by
      rw [← t8, tx_append, List.mem_append]
      refine ⟨fun h => h.elim (fun h => ?_) id, .inr⟩
      obtain ⟨p, hp, rfl⟩ := List.mem_map.1 h
      exact List.mem_map_of_mem (htm p hp)
    refine TL.freeze ([s10]) rfl (fun S2 w2 hz2 => ?_)
    replace hb := hb.frz hz2
    replace hx := hx.old hz2
    replace h8 := h8.old hz2
    replace h10 := h10.frz hz2
    have hf10 : firstsT (tx (ts ++ p8)) = firstsT (tmsI xs w 30) := (outT_congr hWd hqe).symm
    have hT10 : Tws w (tx (ts ++ p8)) := fun x hx => hT x ((hqe x).1 hx)
    refine TL.assign hF rfl rfl ?_
    refine TL.nil ?_
    refine TQ.then_n ?_
    refine T.seq ?_
    refine T.region ?_
    refine TL.move hF rfl rfl ?_
    refine TL.call hF (Firsts_prog h8 (by omega) (fun p hp => by have := hpw p hp; omega)) rfl rfl ?_
    rintro _ _ h
    obtain ⟨a11, c11, p11, segs, rfl, t11, h11, rfl⟩ := h.lit (show firstsS (tx p8) = ((firstsT (tmsI xs w 30)), 0) by rw [t8]; exact firstsS_tw hT (by omega))
    refine TL.freeze (segs) rfl (fun S3 w3 hz3 => ?_)
    replace hb := hb.frz hz3
    replace hx := hx.old hz3
    replace h8 := h8.old hz3
    replace h10 := h10.old hz3
    replace h11 := h11.frz hz3
    have hF1 : Fr w (firstsT (tmsI xs w 30)) := fr_firsts hWd
    have hFT : Tws w (firstsT (tmsI xs w 30)) := hT.firsts
    have hFl : (firstsT (tmsI xs w 30)).length ≤ 30 := Nat.le_trans (outT_len _ _) hTl
    have hp11 := tx_length t11
    have hw11 := tx_wid t11 hFT.wid
    refine TL.move hF rfl rfl ?_
    refine TL.extract hF rfl rfl rfl ?_
    refine TL.extract hF rfl rfl rfl ?_
    refine TL.assign hF rfl rfl ?_
    refine TL.assign hF rfl rfl ?_
    refine TL.nil ?_
    refine TQ.then_n ?_
    refine T.seq ?_
    refine T.region ?_
    refine TL.move hF rfl rfl ?_
    refine TL.call hF (Firsts_prog h10 (by omega) (fun p hp => by have := hpw p (hqm p hp); omega)) rfl rfl ?_
    rintro _ _ h
    obtain ⟨a13, c13, p13, segs, rfl, t13, h13, rfl⟩ := h.lit (show firstsS (tx (ts ++ p8)) = ((firstsT (tmsI xs w 30)), 0) by rw [← hf10]; exact firstsS_tw hT10 (by rw [tx_len, hql]; omega))
    refine TL.freeze (segs) rfl (fun S4 w4 hz4 => ?_)
    replace hb := hb.frz hz4
    replace hx := hx.old hz4
    replace h8 := h8.old hz4
    replace h10 := h10.old hz4
    replace h11 := h11.old hz4
    replace h13 := h13.frz hz4
    refine TL.move hF rfl rfl ?_
    refine TL.extract hF rfl rfl rfl ?_
    refine TL.extract hF rfl rfl rfl ?_
    refine TL.assign hF rfl rfl ?_
    refine TL.assign hF rfl rfl ?_
    refine TL.nil ?_
    refine TQ.then_n ?_
    refine T.seq ?_
    refine T.region ?_
    refine TL.move hF rfl rfl ?_
    refine TL.call hF (Firsts_prog h11 (by omega) (fun p hp => by have := hw11 p hp; omega)) rfl rfl ?_
    rintro _ _ h
    obtain ⟨a15, c15, p15, segs, rfl, t15, h15, rfl⟩ := h.lit (show firstsS (tx p11) = ((firstsT (tmsI xs w 30)), 0) by rw [t11, firstsS_tw hFT (by omega), hF1.firsts])
    refine TL.freeze (segs) rfl (fun S5 w5 hz5 => ?_)
    replace hb := hb.frz hz5
    replace hx := hx.old hz5
    replace h8 := h8.old hz5
    replace h10 := h10.old hz5
    replace h11 := h11.old hz5
    replace h13 := h13.old hz5
    replace h15 := h15.frz hz5
    refine TL.move hF rfl rfl ?_
    refine TL.extract hF rfl rfl rfl ?_
    refine TL.extract hF rfl rfl rfl ?_
    refine TL.assign hF rfl rfl ?_
    refine TL.assign hF rfl rfl ?_
    refine TL.nil ?_
    refine TQ.then_n ?_
    refine T.seq ?_
    refine T.region ?_
    refine TL.move hF rfl rfl ?_
    refine TL.call hF (Lasts_prog h8 (by omega) (fun p hp => by have := hpw p hp; omega)) rfl rfl ?_
    rintro _ _ h
    obtain ⟨a17, c17, p17, segs, rfl, t17, h17, rfl⟩ := h.lit (show lastsS (tx p8) = ((lastsT (tmsI xs w 30)), 0) by rw [t8]; exact lastsS_tw hT (by omega))
    refine TL.freeze (segs) rfl (fun S6 w6 hz6 => ?_)
    replace hb := hb.frz hz6
    replace hx := hx.old hz6
    replace h8 := h8.old hz6
    replace h10 := h10.old hz6
    replace h11 := h11.old hz6
    replace h13 := h13.old hz6
    replace h15 := h15.old hz6
    replace h17 := h17.frz hz6
    have hLT : Tws w (lastsT (tmsI xs w 30)) := hT.lasts
    have hLl : (lastsT (tmsI xs w 30)).length ≤ 30 := Nat.le_trans (outT_len _ _) hTl
    have hp17 := tx_length t17
    have hw17 := tx_wid t17 hLT.wid
    refine TL.move hF rfl rfl ?_
    refine TL.extract hF rfl rfl rfl ?_
    refine TL.extract hF rfl rfl rfl ?_
    refine TL.assign hF rfl rfl ?_
    refine TL.assign hF rfl rfl ?_
    refine TL.nil ?_
    refine TQ.then_n ?_
    refine T.seq ?_
    refine T.seq ?_
    refine T.region ?_
    refine TL.move hF rfl rfl ?_
    refine TL.bin hF rfl rfl rfl rfl ?_
    refine TL.move hF rfl rfl ?_
    refine TL.on rfl rfl rfl (by simp) ?_
    refine TL.move hF rfl rfl ?_
    refine TL.on rfl rfl rfl (by simp) ?_
    refine TL.bin hF rfl rfl rfl rfl ?_
    refine TL.pickF hF rfl (by simp) rfl rfl ?_
    refine TL.move hF rfl rfl ?_
    refine TL.on rfl rfl rfl (by simp) ?_
    refine TL.move hF rfl rfl ?_
    refine TL.on rfl rfl rfl (by simp) ?_
    refine TL.bin hF rfl rfl rfl rfl ?_
    refine TL.pickF hF rfl (by simp) rfl rfl ?_
    refine TL.move hF rfl rfl ?_
    refine TL.on rfl rfl rfl (by simp) ?_
    refine TL.move hF rfl rfl ?_
    refine TL.on rfl rfl rfl (by simp) ?_
    refine TL.bin hF rfl rfl rfl rfl ?_
    refine TL.pickF hF rfl (by simp) rfl rfl ?_
    refine TL.move hF rfl rfl ?_
    refine TL.on rfl rfl rfl (by simp) ?_
    refine TL.move hF rfl rfl ?_
    refine TL.on rfl rfl rfl (by simp) ?_
    refine TL.move hF rfl rfl ?_
    refine TL.on rfl rfl rfl (by simp) ?_
    refine TL.callV hF (EqL_same h11.ro h13.ro t11 t13 (hFT.good hw4 (by omega))) rfl rfl ?_
    refine TL.on rfl rfl rfl (by simp) ?_
    refine TL.not hF rfl rfl ?_
    refine TL.pickF hF rfl (by simp) rfl rfl ?_
    refine TL.move hF rfl rfl ?_
    refine TL.on rfl rfl rfl (by simp) ?_
    refine TL.move hF rfl rfl ?_
    refine TL.on rfl rfl rfl (by simp) ?_
    refine TL.move hF rfl rfl ?_
    refine TL.on rfl rfl rfl (by simp) ?_
    refine TL.callV hF (EqL_same h15.ro h11.ro t15 t11 (hFT.good hw4 (by omega))) rfl rfl ?_
    refine TL.on rfl rfl rfl (by simp) ?_
    refine TL.not hF rfl rfl ?_
    refine TL.pickF hF rfl (by simp) rfl rfl ?_
    refine TL.move hF rfl rfl ?_
    refine TL.on rfl rfl rfl (by simp) ?_
    refine TL.move hF rfl rfl ?_
    refine TL.on rfl rfl rfl (by simp) ?_
    refine TL.move hF rfl rfl ?_
    refine TL.on rfl rfl rfl (by simp) ?_
    refine TL.callV hF (among_true h11.ro h8.ro (by omega) (by omega) (fun p hp => by have := hw11 p hp; omega) (by rw [t11, t8]; exact fun x hx => (mem_outT.1 hx).1)) rfl rfl ?_
    refine TL.on rfl rfl rfl (by simp) ?_
    refine TL.not hF rfl rfl ?_
    refine TL.pickF hF rfl (by simp) rfl rfl ?_
    refine TL.move hF rfl rfl ?_
    refine TL.on rfl rfl rfl (by simp) ?_
    refine TL.move hF rfl rfl ?_
    refine TL.on rfl rfl rfl (by simp) ?_
    refine TL.move hF rfl rfl ?_
    refine TL.on rfl rfl rfl (by simp) ?_
    refine TL.callV hF (among_true h17.ro h8.ro (by omega) (by omega) (fun p hp => by have := hw17 p hp; omega) (by rw [t17, t8]; exact fun x hx => (mem_outT.1 hx).1)) rfl rfl ?_
    refine TL.on rfl rfl rfl (by simp) ?_
    refine TL.not hF rfl rfl ?_
    refine TL.pickF hF rfl (by simp) rfl rfl ?_
    refine TL.move hF rfl rfl ?_
    refine TL.on rfl rfl rfl (by simp) ?_
    refine TL.move hF rfl rfl ?_
    refine TL.on rfl rfl rfl (by simp) ?_
    refine TL.call hF (apart_true h11.ro (by omega) hw11 hw4 (by rw [t11]; exact firsts_self hWd)) rfl rfl ?_
    rintro _ _ ⟨rfl, segs, rfl⟩
    refine TL.hsub [] (List.nil_sublist _) ?_
    refine TL.on rfl rfl rfl (by simp) ?_
    refine TL.not hF rfl rfl ?_
    refine TL.pickF hF rfl (by simp) rfl rfl ?_
    refine TL.move hF rfl rfl ?_
    refine TL.on rfl rfl rfl (by simp) ?_
    refine TL.move hF rfl rfl ?_
    refine TL.on rfl rfl rfl (by simp) ?_
    refine TL.call hF (apart_true h17.ro (by omega) hw17 hw4 (by rw [t17]; exact (fr_lasts hWd).firsts.symm)) rfl rfl ?_
    rintro _ _ ⟨rfl, segs, rfl⟩
    refine TL.hsub [] (List.nil_sublist _) ?_
    refine TL.on rfl rfl rfl (by simp) ?_
    refine TL.not hF rfl rfl ?_
    refine TL.pickF hF rfl (by simp) rfl rfl ?_
    refine TL.nil ?_
    refine TQ.then_n ?_
    refine T.cond_f rfl (by simp) ?_
    refine T.skip ?_
    refine TQ.then_n ?_
    refine T.seq ?_
    refine T.seq ?_
    refine T.region ?_
    refine TL.assign hF rfl rfl ?_
    refine TL.nil ?_
    refine TQ.then_n ?_
    refine T.block ?_
    refine T.loop (ι := Nat) (fun k => k ≤ p8.length) (fun k => [(6, .bool false), (8, .slice a8 p8.length c8), (11, .slice a11 p11.length c11), (17, .slice a17 p17.length c17), (19, .int .i64 (k : Int))]) (fun _ => []) (fun k => p8.length - k) 0 (Nat.zero_le _) ⟨rfl, rfl, rfl, rfl, rfl, trivial⟩ rfl ?_
    clear htl htm ho ho10
    intro i hi
    refine T.seq ?_
    refine T.seq ?_
    refine T.region ?_
    refine TL.move hF rfl rfl ?_
    refine TL.move hF rfl rfl ?_
    refine TL.len hF rfl rfl ?_
    refine TL.bin hF rfl rfl rfl rfl ?_
    refine TL.nil ?_
    refine TQ.then_n ?_
    first | refine T.cond_d rfl (fun ht126 => ?_) (fun ht126 => ?_) | refine T.cond _ rfl (fun ht126 => ?_) (fun ht126 => ?_)
    · refine T.skip ?_
      refine TQ.then_n ?_
      refine T.seq ?_
      refine T.block ?_
      refine T.seq ?_
      refine T.region ?_
      refine TL.move hF rfl rfl ?_
      refine TL.move hF rfl rfl ?_
      refine TL.move hF rfl rfl ?_
      refine TL.indexAddr hF rfl rfl (h8.ad (i := i) (by omega)) (by omega) (by omega) rfl ?_
      refine TL.load hF rfl (h8.ro.at (i := i) (by omega)) rfl ?_
      have hil : i < p8.length := by omega
      have him : p8[i].2.1 ∈ (tmsI xs w 30) := by rw [← t8]; exact List.mem_map_of_mem (List.getElem_mem hil)
      have hti := hT _ him
      have hfirst : pastT (firstsT (tmsI xs w 30)) p8[i].2.1 = true := by rw [past_firsts hWd hti.1]; exact past_self him
      refine TL.call hF (Beyond_prog h11 (h8.it hil) (by omega) (fun p hp => by have := hw11 p hp; omega) (by have := hti.1; omega)) rfl rfl ?_
      rintro _ _ h
      obtain ⟨rfl, segs, rfl⟩ := h.lit (show beyondS (tx p11) p8[i].2.1 = (true, 0) by rw [t11, beyondS_tw hFT hti (by omega) (firsts_self hWd), hfirst])
      refine TL.hsub [] (List.nil_sublist _) ?_
      refine TL.move hF rfl rfl ?_
      refine TL.extract hF rfl rfl rfl ?_
      refine TL.extract hF rfl rfl rfl ?_
      refine TL.assign hF rfl rfl ?_
      refine TL.assign hF rfl rfl ?_
      refine TL.nil ?_
      refine TQ.then_n ?_
      refine T.seq ?_
      refine T.region ?_
      refine TL.assign hF rfl rfl ?_
      refine TL.nil ?_
      refine TQ.then_n ?_
      refine T.cut (ι := Unit) (fun _ => True) (fun _ => [(6, .bool false), (8, .slice a8 p8.length c8), (11, .slice a11 p11.length c11), (17, .slice a17 p17.length c17), (19, .int .i64 (i : Int)), (20, .bool true), (21, .int .i64 0), (22, .bool true)]) (fun _ => []) ?_ ?_
      · refine T.seq ?_
        refine T.region ?_
        refine TL.assign hF rfl rfl ?_
        refine TL.nil ?_
        refine TQ.then_n ?_
        refine T.block ?_
        refine T.loop (ι := Nat × Bool) (fun j => j.1 ≤ p17.length ∧ (j.2 = true ∨ ∃ x ∈ (tx p17).drop j.1, tle p8[i].2.1 x = true)) (fun j => [(6, .bool false), (8, .slice a8 p8.length c8), (11, .slice a11 p11.length c11), (17, .slice a17 p17.length c17), (19, .int .i64 (i : Int)), (20, .bool true), (21, .int .i64 0), (22, .bool j.2), (23, .int .i64 (j.1 : Int))]) (fun _ => []) (fun j => p17.length - j.1) (0, false) ⟨Nat.zero_le _, .inr (by obtain ⟨o, ho, hl⟩ := lasts_high hWd him; exact ⟨o, by rw [List.drop_zero, t17]; exact ho, hl⟩)⟩ ⟨rfl, rfl, rfl, rfl, rfl, rfl, rfl, rfl, rfl, trivial⟩ rfl ?_
        rintro ⟨j, is⟩ ⟨hj, his⟩
        dsimp only at hj his
        refine T.seq ?_
        refine T.seq ?_
        refine T.region ?_
        refine TL.move hF rfl rfl ?_
        refine TL.move hF rfl rfl ?_
        refine TL.len hF rfl rfl ?_
        refine TL.bin hF rfl rfl rfl rfl ?_
        refine TL.nil ?_
        refine TQ.then_n ?_
        first | refine T.cond_d rfl (fun ht141 => ?_) (fun ht141 => ?_) | refine T.cond _ rfl (fun ht141 => ?_) (fun ht141 => ?_)
        · refine T.skip ?_
          refine TQ.then_n ?_
          refine T.seq ?_
          refine T.block ?_
          have hjl : j < p17.length := by omega
          rcases is with _ | _
          · refine T.drawH 10 mixed ?_
            refine DH.pure (i := 0) [(22, _, none)] rfl rfl rfl rfl ⟨⟨rfl, by kernel_rfl⟩, trivial⟩ (fun _ ext => TL.move hF rfl rfl TL.fin) ?_
            refine DH.pure (i := 1) [(144, _, some 0)] rfl rfl rfl rfl ⟨⟨rfl, rfl, rfl⟩, trivial⟩ (fun _ ext => TL.move hF rfl rfl TL.fin) ?_
            refine DH.pure (i := 2) [(8, _, none), (145, _, some 1)] rfl rfl rfl rfl ⟨⟨rfl, by kernel_rfl⟩, ⟨rfl, rfl, rfl⟩, trivial⟩ (fun _ ext => TL.on rfl rfl rfl rfl <| TL.move hF rfl rfl TL.fin) ?_
            refine DH.pure (i := 3) [(19, _, none), (145, _, some 1)] rfl rfl rfl rfl ⟨⟨rfl, by kernel_rfl⟩, ⟨rfl, rfl, rfl⟩, trivial⟩ (fun _ ext => TL.on rfl rfl rfl rfl <| TL.move hF rfl rfl TL.fin) ?_
            refine DH.pure (i := 4) [(146, _, some 2), (147, _, some 3), (145, _, some 1)] rfl rfl rfl rfl ⟨⟨rfl, rfl, rfl⟩, ⟨rfl, rfl, rfl⟩, ⟨rfl, rfl, rfl⟩, trivial⟩ (fun _ ext => TL.on rfl rfl rfl rfl <| TL.indexAddr hF rfl rfl (h8.ad (i := i) (by omega)) (by omega) (by omega) rfl TL.fin) ?_
            refine DH.read (i := 5) [(148, _, some 4), (145, _, some 1)] rfl rfl rfl rfl ⟨⟨rfl, rfl, rfl⟩, ⟨rfl, rfl, rfl⟩, trivial⟩ (fun ext => TL.on rfl rfl rfl rfl <| TL.load hF rfl (h8.ro.at (i := i) (by omega)) rfl TL.fin) ?_
            refine DH.pure (i := 6) [(17, _, none), (145, _, some 1)] rfl rfl rfl rfl ⟨⟨rfl, by kernel_rfl⟩, ⟨rfl, rfl, rfl⟩, trivial⟩ (fun _ ext => TL.on rfl rfl rfl rfl <| TL.move hF rfl rfl TL.fin) ?_
            refine DH.pure (i := 7) [(23, _, none), (145, _, some 1)] rfl rfl rfl rfl ⟨⟨rfl, by kernel_rfl⟩, ⟨rfl, rfl, rfl⟩, trivial⟩ (fun _ ext => TL.on rfl rfl rfl rfl <| TL.move hF rfl rfl TL.fin) ?_
            refine DH.pure (i := 8) [(150, _, some 6), (151, _, some 7), (145, _, some 1)] rfl rfl rfl rfl ⟨⟨rfl, rfl, rfl⟩, ⟨rfl, rfl, rfl⟩, ⟨rfl, rfl, rfl⟩, trivial⟩ (fun _ ext => TL.on rfl rfl rfl rfl <| TL.indexAddr hF rfl rfl (h17.ad (i := j) (by omega)) (by omega) (by omega) rfl TL.fin) ?_
            refine DH.read (i := 9) [(152, _, some 8), (145, _, some 1)] rfl rfl rfl rfl ⟨⟨rfl, rfl, rfl⟩, ⟨rfl, rfl, rfl⟩, trivial⟩ (fun ext => TL.on rfl rfl rfl rfl <| TL.load hF rfl (h17.ro.at (i := j) (by omega)) rfl TL.fin) ?_
            refine DH.done [(153, _), (152, _), (151, _), (150, _), (149, _), (148, _), (147, _), (146, _), (145, _), (144, _)] [_, _, _] (by kernel_rfl) (by kernel_rfl) (by kernel_rfl) (by kernel_rfl) rfl rfl ?_
            refine TL.on rfl rfl rfl rfl ?_
            have hjm : p17[j].2.1 ∈ (lastsT (tmsI xs w 30)) := by rw [← t17]; exact List.mem_map_of_mem (List.getElem_mem hjl)
            have htj := hLT _ hjm
            refine TL.call hF (lawless_fn (h8.it hil) (h17.it hjl) (by have := hti.1; omega) (by have := htj.1; omega)) rfl rfl ?_
            rintro _ _ ⟨rfl, segs, rfl⟩
            rw [lessB_tw hti htj]
            refine TL.hsub [] (List.nil_sublist _) ?_
            refine TL.pickF hF rfl rfl rfl rfl ?_
            refine TL.assign hF rfl rfl ?_
            refine TL.nil ?_
            refine TQ.block_n ?_
            refine TQ.then_n ?_
            refine T.region ?_
            refine TL.move hF rfl rfl ?_
            refine TL.add hF rfl rfl (by omega) (by omega) rfl ?_
            refine TL.assign hF rfl rfl ?_
            refine TL.nil ?_
            refine TQ.round (j + 1, tle p8[i].2.1 p17[j].2.1) ⟨by dsimp only; omega, ?_⟩ (by dsimp only; omega) ⟨rfl, rfl, rfl, rfl, rfl, rfl, rfl, rfl, rfl, trivial⟩ rfl
            rcases his with h | ⟨x, hx, hl⟩
            · cases h
            · rw [tx_drop hjl] at hx
              rcases List.mem_cons.1 hx with rfl | hx
              · exact .inl hl
              · exact .inr ⟨x, hx, hl⟩
          · refine T.drawH 10 mixed ?_
            refine DH.pure (i := 0) [(22, _, none)] rfl rfl rfl rfl ⟨⟨rfl, by kernel_rfl⟩, trivial⟩ (fun _ ext => TL.move hF rfl rfl TL.fin) ?_
            refine DH.pure (i := 1) [(144, _, some 0)] rfl rfl rfl rfl ⟨⟨rfl, rfl, rfl⟩, trivial⟩ (fun _ ext => TL.move hF rfl rfl TL.fin) ?_
            refine DH.pure (i := 2) [(8, _, none), (145, _, some 1)] rfl rfl rfl rfl ⟨⟨rfl, by kernel_rfl⟩, ⟨rfl, rfl, rfl⟩, trivial⟩ (fun _ ext => TL.off hF rfl rfl rfl rfl rfl TL.fin) ?_
            refine DH.pure (i := 3) [(19, _, none), (145, _, some 1)] rfl rfl rfl rfl ⟨⟨rfl, by kernel_rfl⟩, ⟨rfl, rfl, rfl⟩, trivial⟩ (fun _ ext => TL.off hF rfl rfl rfl rfl rfl TL.fin) ?_
            refine DH.pure (i := 4) [(146, _, some 2), (147, _, some 3), (145, _, some 1)] rfl rfl rfl rfl ⟨⟨rfl, rfl, rfl⟩, ⟨rfl, rfl, rfl⟩, ⟨rfl, rfl, rfl⟩, trivial⟩ (fun _ ext => TL.off hF rfl rfl rfl rfl rfl TL.fin) ?_
            refine DH.pure (i := 5) [(148, _, some 4), (145, _, some 1)] rfl rfl rfl rfl ⟨⟨rfl, rfl, rfl⟩, ⟨rfl, rfl, rfl⟩, trivial⟩ (fun _ ext => TL.off hF rfl rfl rfl rfl rfl TL.fin) ?_
            refine DH.pure (i := 6) [(17, _, none), (145, _, some 1)] rfl rfl rfl rfl ⟨⟨rfl, by kernel_rfl⟩, ⟨rfl, rfl, rfl⟩, trivial⟩ (fun _ ext => TL.off hF rfl rfl rfl rfl rfl TL.fin) ?_
            refine DH.pure (i := 7) [(23, _, none), (145, _, some 1)] rfl rfl rfl rfl ⟨⟨rfl, by kernel_rfl⟩, ⟨rfl, rfl, rfl⟩, trivial⟩ (fun _ ext => TL.off hF rfl rfl rfl rfl rfl TL.fin) ?_
            refine DH.pure (i := 8) [(150, _, some 6), (151, _, some 7), (145, _, some 1)] rfl rfl rfl rfl ⟨⟨rfl, rfl, rfl⟩, ⟨rfl, rfl, rfl⟩, ⟨rfl, rfl, rfl⟩, trivial⟩ (fun _ ext => TL.off hF rfl rfl rfl rfl rfl TL.fin) ?_
            refine DH.pure (i := 9) [(152, _, some 8), (145, _, some 1)] rfl rfl rfl rfl ⟨⟨rfl, rfl, rfl⟩, ⟨rfl, rfl, rfl⟩, trivial⟩ (fun _ ext => TL.off hF rfl rfl rfl rfl rfl TL.fin) ?_
            refine DH.done [(153, _), (152, _), (151, _), (150, _), (149, _), (148, _), (147, _), (146, _), (145, _), (144, _)] [_, _, _] (by kernel_rfl) (by kernel_rfl) (by kernel_rfl) (by kernel_rfl) rfl rfl ?_
            refine TL.off hF rfl rfl rfl rfl rfl ?_
            refine TL.pickT hF rfl rfl rfl rfl ?_
            refine TL.assign hF rfl rfl ?_
            refine TL.nil ?_
            refine TQ.block_n ?_
            refine TQ.then_n ?_
            refine T.region ?_
            refine TL.move hF rfl rfl ?_
            refine TL.add hF rfl rfl (by omega) (by omega) rfl ?_
            refine TL.assign hF rfl rfl ?_
            refine TL.nil ?_
            refine TQ.round (j + 1, true) ⟨by dsimp only; omega, .inl rfl⟩ (by dsimp only; omega) ⟨rfl, rfl, rfl, rfl, rfl, rfl, rfl, rfl, rfl, trivial⟩ rfl
        · refine T.exit ?_
          refine TQ.then_x ?_
          refine TQ.then_x ?_
          refine TQ.block_x ?_
          have hist : is = true := by
            rcases his with h | ⟨x, hx, _⟩
            · exact h
            · rw [List.drop_of_length_le (by rw [tx_len]; omega)] at hx; simp at hx
          subst hist
          exact TQ.cut () trivial ⟨rfl, rfl, rfl, rfl, rfl, rfl, rfl, rfl, trivial⟩ rfl
      · intro _ _
        refine T.seq ?_
        refine T.region ?_
        refine TL.move hF rfl rfl ?_
        refine TL.bin hF rfl rfl rfl rfl ?_
        refine TL.move hF rfl rfl ?_
        refine TL.on rfl rfl rfl (by simp) ?_
        refine TL.move hF rfl rfl ?_
        refine TL.on rfl rfl rfl (by simp) ?_
        refine TL.not hF rfl rfl ?_
        refine TL.pickF hF rfl (by simp) rfl rfl ?_
        refine TL.move hF rfl rfl ?_
        refine TL.on rfl rfl rfl (by simp) ?_
        refine TL.move hF rfl rfl ?_
        refine TL.on rfl rfl rfl (by simp) ?_
        refine TL.not hF rfl rfl ?_
        refine TL.pickF hF rfl (by simp) rfl rfl ?_
        refine TL.nil ?_
        refine TQ.then_n ?_
        refine T.cond_f rfl (by simp) ?_
        refine T.skip ?_
        refine TQ.block_n ?_
        refine TQ.then_n ?_
        refine T.region ?_
        refine TL.move hF rfl rfl ?_
        refine TL.add hF rfl rfl (by omega) (by omega) rfl ?_
        refine TL.assign hF rfl rfl ?_
        refine TL.nil ?_
        refine TQ.round (i + 1) (by omega) (by omega) ⟨rfl, rfl, rfl, rfl, rfl, trivial⟩ rfl
    · refine T.exit ?_
      refine TQ.then_x ?_
      refine TQ.then_x ?_
      refine TQ.block_x ?_
      refine TQ.then_n ?_
      refine T.seq ?_
      refine T.region ?_
      refine TL.call hF ordered_fn rfl rfl ?_
      rintro _ _ rfl
      refine TL.assign hF rfl rfl ?_
      refine TL.nil ?_
      refine TQ.then_n ?_
      refine T.ret ?_
      exact TQ.retsF [6] _ hb rfl rfl rfl (fun _ => rfl)
end Go.Proofs.YteimjjpigohnhaaGreat
namespace Go.Proofs.YteimjjpigohnhaaGreat
open Go.Sl Go.ChangeShapes Go.WideShapes Go.ChangeAt Go.RowKit 
set_option maxRecDepth 100000 in
theorem orderFirsts_lifted (os : Os) (started : os.Started) (H : Type) (enc : TypeId × Value → H) :
    ReturnsInHanded {} Tryz.checked os 10 .any (Rows.orderFirstsSpec.pre6 enc Tryz.prog Tryz.f10 Rows.orderFirstsRow.domain false) (Rows.orderFirstsSpec.post enc Tryz.prog Tryz.f10 false true false false) := by
  refine returnsInHanded_of_change (C := Tryz.checked) Tryz.own started (by kernel_rfl) Tryz.func10
    (ChangeSpec.witness6 (enc := enc) (C := Tryz.checked) false ⟨#[], #[.slice none 0 0, .int .i64 0, .int .i64 0], []⟩ 8 (by kernel_rfl) (by kernel_rfl) (by kernel_rfl) (by kernel_rfl)) ?_
  intro W base args ds gs before hval hW hcnd _
  have hW' := hW
  obtain ⟨p, q, hA0, hV, rfl, hfz, hnd⟩ := hW
  have hA : DataW.TrodAll enc Tryz.prog W 0 (fun _ => true) true [22, 3, 3] args.toList ds p := hA0
  have hval' : ∀ (j : Nat) t v, (#[22, 3, 3] : Array TypeId)[j]? = some t → args[j]? = some v → Value.okWide Tryz.prog W .any base t v := hval
  obtain ⟨v0, v1, v2, d0, d1, d2, p0, p1, p2, rfl, rfl, rfl, h0, h1, h2⟩ := trodAll_three hA
  obtain ⟨_, _, _, rfl⟩ := okWide_slice u22 (hval' 0 22 v0 rfl rfl)
  obtain ⟨_, h0⟩ := h0
  obtain ⟨a0, xs0, c0, e0, hx0, hl0, hw0⟩ := time_read h0
  obtain ⟨z1, rfl, _, _, wz1⟩ := open_int u3 (hval' 1 3 v1 rfl rfl) h1
  have wz1 := wf_i64 wz1
  obtain ⟨z2, rfl, _, _, wz2⟩ := open_int u3 (hval' 2 3 v2 rfl rfl) h2
  have wz2 := wf_i64 wz2
  rw [e0] at hW' ⊢
  refine (calls_true (OrderFirsts_fn hx0 hl0 hw0 wz1 wz2)).mono fun e W' ⟨he, hw⟩ => ⟨_, he, ?_⟩
  exact law_post (f := Tryz.f10) Tryz.laidOut rfl 4 rfl u4 hW' rfl (by decide +kernel) hw
theorem orderFirsts_holds : Rows.OrderFirstsSaid :=
  OpenClaim.holds_of_wide 10 Tryz.f10 rfl rfl rfl rfl rfl rfl rfl ⟨rfl, rfl, rfl, rfl, rfl⟩ rfl rfl rfl rfl rfl (by kernel_rfl) Tryz.func10 (by kernel_rfl)
    (of_decide_eq_true (by kernel_rfl)) (by unfold Func.isWrapper; first | (rw [if_pos (by decide +kernel)]; kernel_rfl) | (rw [if_neg (by decide +kernel)]; exact ⟨rfl, rfl⟩))
    (fun os started H enc _ => orderFirsts_lifted os started H enc)
#print axioms orderFirsts_holds
end Go.Proofs.YteimjjpigohnhaaGreat
