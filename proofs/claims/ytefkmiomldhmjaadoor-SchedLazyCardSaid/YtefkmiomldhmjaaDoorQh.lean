/- Several texts in one. -/
import Derived.Test.YtefkmiomldhmjaaDoorQf
/- The law of little. -/
namespace Go.Proofs.YtefkmiomldhmjaaDoor
open Go.Sl
variable {S : Nat → Prop} {w0 : World} {η : Heap}
theorem osl_size {e : TypeId} {sz n c b : Nat} {xs : List Value} {cur : Array Value} (h : OSl e sz (.slice (some ⟨b, 0, none⟩) n c) n xs [(b, .cells cur e (0, 0))]) : n * sz ≤ cur.size := by
  rcases h.2 with ⟨h0, _⟩ | ⟨g, cap, cur', hv, hs, hc, hz, _⟩
  · cases h0
  · simp only [List.cons.injEq, Prod.mk.injEq, Obj.cells.injEq, and_true] at hs
    obtain ⟨_, rfl⟩ := hs
    rw [hz]; exact Nat.mul_le_mul_right _ hc
theorem set_mid {α : Type} {c : Nat} {f : α → List Value} (hf : ∀ x, (f x).length = c) (a : List α) (x y : α) (b : List α) {j : Nat} {v : Value} (hj : j < c) (hy : (f x).set j v = f y) : ((a ++ x :: b).flatMap f).set (a.length * c + j) v = (a ++ y :: b).flatMap f := by
  have h1 : (a.flatMap f).length = a.length * c := by
    clear hy
    induction a with
    | nil => simp
    | cons x r ih => rw [List.flatMap_cons, List.length_append, hf, ih, List.length_cons, Nat.add_mul]; omega
  rw [List.flatMap_append, List.flatMap_cons, List.flatMap_append, List.flatMap_cons, List.set_append_right _ _ (by omega), h1, Nat.add_sub_cancel_left, List.set_append_left _ _ (by rw [hf]; exact hj), hy]
def eagN (b : Bool) (x : NodeD) : NodeD := ⟨x.op, x.n, x.fa, x.fr, x.fc, b⟩
def eagT (b : Bool) (k : Nat) (l : List NodeD) : List NodeD := (l.take k).map (eagN b) ++ l.drop k
theorem eagT_end (b : Bool) (l : List NodeD) : eagT b l.length l = l.map (eagN b) := by unfold eagT; simp
theorem eagT_flat (b : Bool) {l : List NodeD} {k : Nat} (hk : k < l.length) : (eagT b (k + 1) l).flatMap NodeD.cells = ((eagT b k l).flatMap NodeD.cells).set (k * 4 + 3) (.bool b) := by
  have h := set_mid ncl ((l.take k).map (eagN b)) l[k] (eagN b l[k]) (l.drop (k + 1)) (j := 3) (v := .bool b) (by decide) rfl
  rw [List.length_map, List.length_take, Nat.min_eq_left (by omega)] at h
  unfold eagT
  rw [List.take_succ_eq_append_getElem hk, List.map_append, drop_step hk, h]
  simp
theorem nd_eag (b : Bool) (l : List NodeD) (i : Nat) : (nd (l.map (eagN b)) i).op = (nd l i).op ∧ (nd (l.map (eagN b)) i).fr = (nd l i).fr := by
  by_cases h : i < l.length
  · rw [nd_eq h, nd_eq (by simpa using h), List.getElem_map]; exact ⟨rfl, rfl⟩
  · unfold nd
    rw [List.getD_eq_getElem?_getD, List.getD_eq_getElem?_getD, List.getElem?_eq_none (by simpa using h), List.getElem?_eq_none (by omega)]; exact ⟨rfl, rfl⟩
theorem instE_eag (b : Bool) (l : List NodeD) (x : InstD) : instE (l.map (eagN b)) x = instE l x := by
  unfold instE setsOk asksOk
  simp only [List.length_map, (nd_eag b l _).1]
theorem MadeOk.eag {l : List NodeD} {all : List InstD} (h : MadeOk l all) (b : Bool) : MadeOk (l.map (eagN b)) all := by
  refine ⟨fun i hi => ?_, by rw [List.length_map]; exact h.lo, by rw [List.length_map]; exact h.hi, h.al, fun x hx => by rw [instE_eag]; exact h.io x hx⟩
  have := h.item i (by simpa using hi)
  rw [List.getElem_map]
  exact ⟨this.ok, this.inp⟩
theorem MadeOk.ops {l : List NodeD} {all : List InstD} (h : MadeOk l all) : l.countP (fun x => decide (x.op ≠ 0)) = l.length - 3 := by
  have e : l = l.take 3 ++ l.drop 3 := (List.take_append_drop 3 l).symm
  have h1 : (l.take 3).countP (fun x => decide (x.op ≠ 0)) = 0 := List.countP_eq_zero.2 fun x hx => by
    obtain ⟨i, hi, rfl⟩ := List.mem_iff_getElem.1 hx
    rw [List.length_take] at hi
    rw [List.getElem_take]
    have := (h.item i (by omega)).inp.2 (by omega)
    simp [this]
  have h2 : (l.drop 3).countP (fun x => decide (x.op ≠ 0)) = (l.drop 3).length := List.countP_eq_length.2 fun x hx => by
    obtain ⟨i, hi, rfl⟩ := List.mem_iff_getElem.1 hx
    rw [List.length_drop] at hi
    rw [List.getElem_drop]
    have := (h.item (3 + i) (by omega)).inp
    have h3 : l[3 + i].op ≠ 0 := fun e => by have := this.1 e; omega
    simp [h3]
  conv => lhs; rw [e]
  rw [List.countP_append, h1, h2, List.length_drop]; omega
/-- What the law says of an entry. -/
theorem Rn.little2 {l : List NodeD} {all : List InstD} (h : Rn l all) (pick : List Int) (he : ∀ i, i < l.length → (nd l i).eager = true) {d : DoneD} (hd : d ∈ (toldS l all pick).1) :
    ∃ (q i : Nat) (w : Int) (o : Bool), d = ⟨q, i, w, o⟩ ∧ q < all.length ∧ i < l.length ∧ ∀ p, q = p + 1 → (nd l i).fr.any (fun f => decide ((zAt l pick all (p + 1)).2.2.W f.toNat ≠ (zAt l pick all p).2.2.W f.toNat)) = true ∧ leadF l all (p + 1) i = true ∧ o = decide ((zAt l pick all (p + 1)).2.2.W i ≠ (zAt l pick all p).2.2.W i) := by
  obtain ⟨q, hq, hd2, h1⟩ := h.of_done pick hd
  obtain ⟨_, i, h2, h3, _, _⟩ := h.done pick hq hd2
  obtain ⟨dI, dN, dW, dO⟩ := d
  simp only at h1 h2
  subst h1; subst h2
  refine ⟨q, i, dW, dO, rfl, hq, h3, fun p hp => ?_⟩
  subst hp
  obtain ⟨i2, e1, _, ⟨f, hf, hne⟩, h5, h6⟩ := h.little pick he hq hd2
  simp only at e1
  obtain rfl : i = i2 := by omega
  exact ⟨List.any_eq_true.2 ⟨f, hf, decide_eq_true hne⟩, h5, h6⟩
theorem Rn.eager_all {l : List NodeD} {all : List InstD} (pick : List Int) (he : ∀ i, i < l.length → (nd l i).eager = true) {k : Nat} (hk : k < all.length) : ((toldS l all pick).2.2.map (eagerOf l))[k]? = some ((List.range l.length).map (zAt l pick all k).2.2.W) := by
  rw [List.getElem?_eq_getElem (by rw [List.length_map, told_wlen]; exact hk), List.getElem_map, told_w hk]
  unfold eagerOf
  rw [List.filter_eq_self.2 fun i hi => he i (List.mem_range.1 hi)]

set_option maxHeartbeats 2000000 in
theorem SchedLittle_fn {a b : Option Addr} {xs ys : List Nat} {c d : Nat} (hg : Kinds S w0) (hx : Row S w0 [] a (n32 xs)) (hy : Row S w0 [] b (n32 ys)) (hxl : xs.length < 2 ^ 63) (hyl : ys.length < 2 ^ 63) (hxc : xs.length ≤ c) (hyc : ys.length ≤ d) (hxb : ∀ n ∈ xs, n < 4294967296) (hyb : ∀ n ∈ ys, n < 4294967296) {q : Option Addr} {zs : List Nat} {e : Nat} (hs : Row S w0 [] q (n16 zs)) (hsl : zs.length < 2 ^ 63) (hsc : zs.length ≤ e) (hsb : ∀ n ∈ zs, n < 65536) :
    Rt Tryd.prog 7 [.slice a xs.length c, .slice b ys.length d, .slice q zs.length e].toArray S w0 [] (fun v _ => v = .bool true) := by
  have hF := open_wide
  refine Rt.of (fn := Tryd.f7) Tryd.func7 rfl rfl ?_
  refine T.seq ?_
  refine T.region ?_
  refine TL.assign hF rfl rfl ?_
  refine TL.nil ?_
  refine TQ.then_n ?_
  refine T.seq ?_
  refine T.region ?_
  refine TL.move hF rfl rfl ?_
  refine TL.move hF rfl rfl ?_
  refine TL.call hF (made_fn hx hy hxl hyl hxc hyc hxb hyb) rfl rfl ?_
  rintro _ _ ⟨l, all, la, lc, lg, ia', ic, ig, ins, rfl, rfl, hm, hol, hoi, hfr, hir⟩
  have hb := Back.refl S w0
  refine TL.move hF rfl rfl ?_
  refine TL.extract hF rfl rfl rfl ?_
  refine TL.extract hF rfl rfl rfl ?_
  refine TL.assign hF rfl rfl ?_
  refine TL.assign hF rfl rfl ?_
  refine TL.nil ?_
  refine TQ.then_n ?_
  refine T.seq ?_
  refine T.seq ?_
  refine T.region ?_
  refine TL.move hF rfl rfl ?_
  refine TL.len hF rfl rfl ?_
  refine TL.move hF rfl rfl ?_
  refine TL.nil ?_
  refine TQ.then_n ?_
  refine T.block ?_
  have hpos := hm.lo
  have hlen := hm.hi
  have halen := hm.al
  have hlcap := osl_cap hol
  have hicap := osl_cap hoi
  obtain ⟨g, lc2, cur, hv, rfl, hsz⟩ := hol.ex (by omega)
  simp only [Value.slice.injEq, true_and] at hv
  obtain ⟨rfl, rfl⟩ := hv
  refine T.loop (ι := Nat × Array Value) (fun i => i.1 ≤ l.length ∧ OSl 55 4 (.slice (some ⟨g, 0, none⟩) l.length lc) l.length ((eagT true i.1 l).flatMap NodeD.cells) [(g, .cells i.2 55 (0, 0))]) (fun i => [(2, .slice q zs.length e), (6, .bool false), (7, .slice (some ⟨g, 0, none⟩) l.length lc), (8, .slice ia' all.length ic), (29, .int .i64 (l.length : Int)), (30, .int .i64 (i.1 : Int))]) (fun i => ig :: [(g, Obj.cells i.2 55 (0, 0))] :: (ins ++ [])) (fun i => l.length - i.1) (0, cur) ⟨Nat.zero_le _, by simpa [eagT] using hol⟩ ⟨rfl, rfl, rfl, rfl, rfl, rfl, trivial⟩ rfl ?_
  rintro ⟨k, cur⟩ ⟨hk, hol⟩
  dsimp only at hk hol
  refine T.seq ?_
  refine T.region ?_
  refine TL.bin hF rfl rfl rfl rfl ?_
  refine TL.nil ?_
  refine TQ.then_n ?_
  refine T.seq ?_
  first | refine T.cond_d rfl (fun ht31 => ?_) (fun ht31 => ?_) | refine T.cond _ rfl (fun ht31 => ?_) (fun ht31 => ?_)
  · refine T.skip ?_
    refine TQ.then_n ?_
    refine T.seq ?_
    refine T.block ?_
    refine T.seq ?_
    refine T.region ?_
    refine TL.move hF rfl rfl ?_
    refine TL.assign hF rfl rfl ?_
    refine TL.nil ?_
    refine TQ.then_n ?_
    refine T.region ?_
    refine TL.move hF rfl rfl ?_
    refine TL.move hF rfl rfl ?_
    refine TL.indexAddr hF rfl rfl ⟨_, rfl, rfl⟩ (by omega) (by omega) rfl ?_
    refine TL.fieldAddr hF rfl rfl ?_
    refine TL.storeI hF 1 rfl rfl rfl rfl (by have := osl_size hol; simp; omega) ?_
    refine TL.nil ?_
    refine TQ.block_n ?_
    refine TQ.then_n ?_
    refine T.region ?_
    refine TL.add hF rfl rfl (by omega) (by omega) rfl ?_
    refine TL.move hF rfl rfl ?_
    refine TL.nil ?_
    have hkl : k < l.length := by omega
    refine TQ.round (k + 1, cur.setIfInBounds (k * 4 + 3) (.bool true)) ⟨by dsimp only; omega, ?_⟩ (by dsimp only; omega) ⟨rfl, rfl, rfl, rfl, rfl, rfl, trivial⟩ (by simp)
    dsimp only
    rw [eagT_flat true hkl]
    exact hol.put
  · refine T.exit ?_
    refine TQ.then_x ?_
    refine TQ.then_x ?_
    refine TQ.block_x ?_
    refine TQ.then_n ?_
    refine T.seq ?_
    refine T.region ?_
    refine TL.move hF rfl rfl ?_
    refine TL.move hF rfl rfl ?_
    refine TL.move hF rfl rfl ?_
    have hkn : k = l.length := by omega
    subst hkn
    rw [eagT_end] at hol
    have hm2 := hm.eag true
    have hlenL : (l.map (eagN true)).length = l.length := List.length_map _
    have hfr2 : ∀ x ∈ l.map (eagN true), Row S w0 ins x.fa (ints x.fr) := fun x hx => by obtain ⟨y, hy, rfl⟩ := List.mem_map.1 hx; exact hfr y hy
    have hee : ∀ i, i < (l.map (eagN true)).length → (nd (l.map (eagN true)) i).eager = true := fun i hi => by rw [nd_eq hi, List.getElem_map]; rfl
    rw [← hlenL] at hol hlcap ⊢
    generalize l.map (eagN true) = L at hol hm2 hfr2 hee hlenL hlcap ⊢
    clear hm hfr
    have hm := hm2
    clear hm2
    have hn : Nodes S w0 (ig :: [(g, Obj.cells cur 55 (0, 0))] :: ins) (some ⟨g, 0, none⟩) L := ⟨hol.row (by simp), fun x hx => (hfr2 x hx).up (fun z hz => by simp [hz])⟩
    have hi : Insts S w0 (ig :: [(g, Obj.cells cur 55 (0, 0))] :: ins) ia' all := ⟨hoi.row (by simp), fun x hx => (hir x hx).1.up (fun z hz => by simp [hz]), fun x hx => (hir x hx).2.up (fun z hz => by simp [hz])⟩
    refine TL.freeze (ig :: [(g, Obj.cells cur 55 (0, 0))] :: ins) rfl (fun S1 w1 hz1 => ?_)
    have hb := hb.frz hz1
    have hn := hn.frz hz1
    have hi := hi.frz hz1
    have hg := hg.old hz1
    have hs := hs.old hz1
    clear hol hoi hfr2 hir
    have hr := hm.rn
    have hok := hr.ok
    have hlen := hm.hi
    have hlo := hm.lo
    refine TL.call hF (order_fn hs hsl hsc hsb) rfl rfl ?_
    rintro _ _ ⟨pa, pc, s2, rfl, rfl, hp⟩
    obtain ⟨hpl, hpq⟩ := pick_ok hsb
    generalize hpk : (zs.take 200).map (fun (n : Nat) => (n : Int)) = pick at hp hpl hpq ⊢
    have hck := hm.check hpl hpq
    refine TL.freeze [s2] rfl (fun S2 w2 hz2 => ?_)
    have hb := hb.frz hz2
    have hg := hg.old hz2
    have hn := hn.old hz2
    have hi := hi.old hz2
    have hs := hs.old hz2
    have hp := hp.frz hz2
    refine TL.call hF (Run_made hg hn hi hp hm hck) rfl rfl ?_
    rintro _ _ ⟨da, dc, s3, rfl, rfl, hdc, hd⟩
    refine TL.freeze s3 rfl (fun S3 w3 hz3 => ?_)
    have hb := hb.frz hz3
    have hg := hg.old hz3
    have hn := hn.old hz3
    have hi := hi.old hz3
    have hs := hs.old hz3
    have hp := hp.old hz3
    have hd := hd.frz hz3
    refine TL.move hF rfl rfl ?_
    refine TL.extract hF rfl rfl rfl ?_
    refine TL.extract hF rfl rfl rfl ?_
    refine TL.assign hF rfl rfl ?_
    refine TL.assign hF rfl rfl ?_
    refine TL.nil ?_
    refine TQ.then_n ?_
    refine T.seq ?_
    refine T.region ?_
    refine TL.move hF rfl rfl ?_
    refine TL.move hF rfl rfl ?_
    refine TL.move hF rfl rfl ?_
    refine TL.call hF (order_fn hs hsl hsc hsb) rfl rfl ?_
    rintro _ _ ⟨pa4, pc4, s4, rfl, rfl, hp4⟩
    rw [hpk] at hp4 ⊢
    refine TL.freeze [s4] rfl (fun S4 w4 hz4 => ?_)
    have hb := hb.frz hz4
    have hg := hg.old hz4
    have hn := hn.old hz4
    have hi := hi.old hz4
    have hs := hs.old hz4
    have hd := hd.old hz4
    have hp4 := hp4.frz hz4
    refine TL.call hF (Eager_made hg hn hi hp4 hm hck) rfl rfl ?_
    rintro _ _ ⟨ea, ec, s5, rfl, rfl, hE⟩
    refine TL.freeze s5 rfl (fun S5 w5 hz5 => ?_)
    have hb := hb.frz hz5
    have hg := hg.old hz5
    have hn := hn.old hz5
    have hi := hi.old hz5
    have hs := hs.old hz5
    have hd := hd.old hz5
    have hE := hE.frz hz5
    refine TL.move hF rfl rfl ?_
    refine TL.extract hF rfl rfl rfl ?_
    refine TL.extract hF rfl rfl rfl ?_
    refine TL.assign hF rfl rfl ?_
    refine TL.assign hF rfl rfl ?_
    refine TL.nil ?_
    refine TQ.then_n ?_
    refine T.seq ?_
    refine T.region ?_
    refine TL.move hF rfl rfl ?_
    refine TL.move hF rfl rfl ?_
    refine TL.move hF rfl rfl ?_
    refine TL.call hF (order_fn hs hsl hsc hsb) rfl rfl ?_
    rintro _ _ ⟨pa6, pc6, s6, rfl, rfl, hp6⟩
    rw [hpk] at hp6 ⊢
    refine TL.freeze [s6] rfl (fun S6 w6 hz6 => ?_)
    have hb := hb.frz hz6
    have hg := hg.old hz6
    have hn := hn.old hz6
    have hi := hi.old hz6
    have hd := hd.old hz6
    have hE := hE.old hz6
    have hp6 := hp6.frz hz6
    refine TL.call hF (Looked_made hg hn hi hp6 hm hck) rfl rfl ?_
    rintro _ _ ⟨rfl, s98, rfl⟩
    refine TL.hsub [] (List.nil_sublist _) ?_
    have hlt := fun d hd => hr.little2 pick hee (d := d) hd
    have hdl := told_dlen hm pick
    have hEl := eager_len L all pick
    have hEt := fun k hk => Rn.eager_all pick hee (all := all) (k := k) hk
    have hlk : (((toldS L all pick).2.1 : Nat) : Int) = (all.length : Int) * ((L.length : Int) - 3) := by
      rw [hr.looked pick hee, hm.ops, Int.natCast_mul, Int.ofNat_sub hlo]; rfl
    have hmb : 0 ≤ (all.length : Int) * ((L.length : Int) - 3) ∧ (all.length : Int) * ((L.length : Int) - 3) ≤ 340 := by
      have h1 : all.length * (L.length - 3) ≤ 20 * 17 := Nat.mul_le_mul halen (by omega)
      have h2 : (all.length : Int) * ((L.length : Int) - 3) = ((all.length * (L.length - 3) : Nat) : Int) := by rw [Int.natCast_mul, Int.ofNat_sub hlo]; rfl
      rw [h2]; omega
    generalize (toldS L all pick).2.2.map (eagerOf L) = EL at hE hEl hEt ⊢
    generalize (toldS L all pick).1 = D at hd hlt hdl hdc ⊢
    obtain ⟨fE, hfE, hadE⟩ := hE.item
    have hEg : ∀ k (hk : k < EL.length), EL[k] = (List.range L.length).map (zAt L pick all k).2.2.W := fun k hk => Option.some.inj ((List.getElem?_eq_getElem _).symm.trans (hEt k (by omega)))
    refine TL.move hF rfl rfl ?_
    refine TL.extract hF rfl rfl rfl ?_
    refine TL.extract hF rfl rfl rfl ?_
    refine TL.extract hF rfl rfl rfl ?_
    refine TL.assign hF rfl rfl ?_
    refine TL.assign hF rfl rfl ?_
    refine TL.assign hF rfl rfl ?_
    refine TL.nil ?_
    refine TQ.then_n ?_
    refine T.seq ?_
    refine T.seq ?_
    refine T.region ?_
    refine TL.move hF rfl rfl ?_
    refine TL.bin hF rfl rfl rfl rfl ?_
    refine TL.move hF rfl rfl ?_
    refine TL.on rfl rfl rfl rfl ?_
    refine TL.move hF rfl rfl ?_
    refine TL.on rfl rfl rfl rfl ?_
    refine TL.move hF rfl rfl ?_
    refine TL.on rfl rfl rfl rfl ?_
    refine TL.bin hF rfl rfl rfl rfl ?_
    refine TL.pickF hF rfl rfl rfl rfl ?_
    refine TL.move hF rfl rfl ?_
    refine TL.on rfl rfl rfl rfl ?_
    refine TL.move hF rfl rfl ?_
    refine TL.on rfl rfl rfl rfl ?_
    refine TL.move hF rfl rfl ?_
    refine TL.on rfl rfl rfl rfl ?_
    refine TL.bin hF rfl rfl rfl rfl ?_
    refine TL.pickF hF rfl rfl rfl rfl ?_
    refine TL.move hF rfl rfl ?_
    refine TL.on rfl rfl rfl rfl ?_
    refine TL.move hF rfl rfl ?_
    refine TL.on rfl rfl rfl rfl ?_
    refine TL.len hF rfl rfl ?_
    refine TL.on rfl rfl rfl rfl ?_
    refine TL.move hF rfl rfl ?_
    refine TL.on rfl rfl rfl rfl ?_
    refine TL.len hF rfl rfl ?_
    refine TL.on rfl rfl rfl rfl ?_
    refine TL.bin hF rfl rfl rfl rfl ?_
    refine TL.pickF hF rfl rfl rfl rfl ?_
    refine TL.move hF rfl rfl ?_
    refine TL.on rfl rfl rfl (by simp [hEl]) ?_
    refine TL.move hF rfl rfl ?_
    refine TL.on rfl rfl rfl (by simp [hEl]) ?_
    refine TL.move hF rfl rfl ?_
    refine TL.on rfl rfl rfl (by simp [hEl]) ?_
    refine TL.len hF rfl rfl ?_
    refine TL.on rfl rfl rfl (by simp [hEl]) ?_
    refine TL.bin hF rfl rfl rfl rfl ?_
    refine TL.pickF hF rfl (by simp [hEl]) rfl rfl ?_
    refine TL.move hF rfl rfl ?_
    refine TL.on rfl rfl rfl (by simp) ?_
    refine TL.move hF rfl rfl ?_
    refine TL.on rfl rfl rfl (by simp) ?_
    refine TL.move hF rfl rfl ?_
    refine TL.on rfl rfl rfl (by simp) ?_
    refine TL.len hF rfl rfl ?_
    refine TL.on rfl rfl rfl (by simp) ?_
    refine TL.move hF rfl rfl ?_
    refine TL.on rfl rfl rfl (by simp) ?_
    refine TL.len hF rfl rfl ?_
    refine TL.on rfl rfl rfl (by simp) ?_
    refine TL.sub hF rfl rfl (by omega) (by omega) rfl ?_
    refine TL.on rfl rfl rfl (by simp) ?_
    refine TL.mul hF rfl rfl (by omega) (by omega) rfl ?_
    refine TL.on rfl rfl rfl (by simp) ?_
    refine TL.bin hF rfl rfl rfl rfl ?_
    refine TL.pickF hF rfl (by simp) rfl rfl ?_
    refine TL.nil ?_
    refine TQ.then_n ?_
    refine T.cond_f rfl (by simp [hlk]) ?_
    refine T.skip ?_
    refine TQ.then_n ?_
    refine T.seq ?_
    refine T.seq ?_
    refine T.region ?_
    refine TL.move hF rfl rfl ?_
    refine TL.len hF rfl rfl ?_
    refine TL.move hF rfl rfl ?_
    refine TL.nil ?_
    refine TQ.then_n ?_
    refine T.block ?_
    refine T.loop (ι := Nat) (fun k => k ≤ D.length) (fun k => [(6, .bool false), (7, .slice (some ⟨g, 0, none⟩) L.length lc), (8, .slice ia' all.length ic), (12, .slice ea EL.length ec), (98, .slice da D.length dc), (99, .int .i64 (D.length : Int)), (100, .int .i64 (k : Int))]) (fun _ => []) (fun k => D.length - k) 0 (Nat.zero_le _) ⟨rfl, rfl, rfl, rfl, rfl, rfl, rfl, trivial⟩ rfl ?_
    intro k hk
    refine T.seq ?_
    refine T.region ?_
    refine TL.bin hF rfl rfl rfl rfl ?_
    refine TL.nil ?_
    refine TQ.then_n ?_
    refine T.seq ?_
    first | refine T.cond_d rfl (fun ht101 => ?_) (fun ht101 => ?_) | refine T.cond _ rfl (fun ht101 => ?_) (fun ht101 => ?_)
    · refine T.skip ?_
      refine TQ.then_n ?_
      refine T.seq ?_
      refine T.block ?_
      refine T.seq ?_
      refine T.region ?_
      have hkl : k < D.length := by omega
      obtain ⟨q1, i, dw, dot, hdk, hq1, hil, hlit⟩ := hlt _ (List.getElem_mem hkl)
      have hat : ∀ η' j v, ([Value.int .i64 (q1 : Int), Value.int .i64 (i : Int), Value.int .i64 dw, Value.bool dot])[j]? = some v → At S6 w6 η' ⟨(sAt da (k * 4)).block, (sAt da (k * 4)).off + j, none⟩ v := fun η' => by
        show ∀ j v, (DoneD.cells ⟨(q1 : Int), (i : Int), dw, dot⟩)[j]? = some v → _
        rw [← hdk]; exact hd.ro.tabA dcl hkl
      refine TL.indexAddr hF rfl rfl (hd.tad dcl (by decide) (i := k) (by omega)) (by omega) (by omega) rfl ?_
      refine TL.loadA hF ([Value.int .i64 (q1 : Int), Value.int .i64 (i : Int), Value.int .i64 dw, Value.bool dot]) rfl rfl (hat _) rfl ?_
      refine TL.alloc hF rfl (fun b18 => ?_)
      refine TL.storeAI hF ([Value.int .i64 (q1 : Int), Value.int .i64 (i : Int), Value.int .i64 dw, Value.bool dot]) 0 rfl rfl rfl rfl (by simp [Value.oneCell']) (by simp [Value.cells]) ?_
      refine TL.nil ?_
      refine TQ.then_n ?_
      refine T.seq ?_
      refine T.seq ?_
      refine T.region ?_
      refine TL.fieldAddr hF rfl rfl ?_
      refine TL.load hF rfl (by first | exact At.own' (i := 0) rfl rfl | exact At.own' (i := 1) rfl rfl | exact At.own' (i := 2) rfl rfl | exact At.own' (i := 3) rfl rfl | exact At.own' (i := 4) rfl rfl | exact At.own' (i := 5) rfl rfl | exact At.own' (i := 6) rfl rfl | exact At.own' (i := 7) rfl rfl | exact At.own' (i := 8) rfl rfl | exact At.own' (i := 9) rfl rfl | exact At.own' (i := 10) rfl rfl | exact At.own' (i := 11) rfl rfl | exact At.own' (i := 12) rfl rfl) rfl ?_
      refine TL.bin hF rfl rfl rfl rfl ?_
      refine TL.move hF rfl rfl ?_
      refine TL.on rfl rfl rfl (by first | rfl | exact decide_eq_false (by omega) | (simp; omega)) ?_
      refine TL.fieldAddr hF rfl rfl ?_
      refine TL.on rfl rfl rfl (by first | rfl | exact decide_eq_false (by omega) | (simp; omega)) ?_
      refine TL.load hF rfl (by first | exact At.own' (i := 0) rfl rfl | exact At.own' (i := 1) rfl rfl | exact At.own' (i := 2) rfl rfl | exact At.own' (i := 3) rfl rfl | exact At.own' (i := 4) rfl rfl | exact At.own' (i := 5) rfl rfl | exact At.own' (i := 6) rfl rfl | exact At.own' (i := 7) rfl rfl | exact At.own' (i := 8) rfl rfl | exact At.own' (i := 9) rfl rfl | exact At.own' (i := 10) rfl rfl | exact At.own' (i := 11) rfl rfl | exact At.own' (i := 12) rfl rfl) rfl ?_
      refine TL.on rfl rfl rfl (by first | rfl | exact decide_eq_false (by omega) | (simp; omega)) ?_
      refine TL.move hF rfl rfl ?_
      refine TL.on rfl rfl rfl (by first | rfl | exact decide_eq_false (by omega) | (simp; omega)) ?_
      refine TL.len hF rfl rfl ?_
      refine TL.on rfl rfl rfl (by first | rfl | exact decide_eq_false (by omega) | (simp; omega)) ?_
      refine TL.bin hF rfl rfl rfl rfl ?_
      refine TL.pickF hF rfl (by first | rfl | exact decide_eq_false (by omega) | (simp; omega)) rfl rfl ?_
      refine TL.move hF rfl rfl ?_
      refine TL.on rfl rfl rfl (by first | rfl | exact decide_eq_false (by omega) | (simp; omega)) ?_
      refine TL.fieldAddr hF rfl rfl ?_
      refine TL.on rfl rfl rfl (by first | rfl | exact decide_eq_false (by omega) | (simp; omega)) ?_
      refine TL.load hF rfl (by first | exact At.own' (i := 0) rfl rfl | exact At.own' (i := 1) rfl rfl | exact At.own' (i := 2) rfl rfl | exact At.own' (i := 3) rfl rfl | exact At.own' (i := 4) rfl rfl | exact At.own' (i := 5) rfl rfl | exact At.own' (i := 6) rfl rfl | exact At.own' (i := 7) rfl rfl | exact At.own' (i := 8) rfl rfl | exact At.own' (i := 9) rfl rfl | exact At.own' (i := 10) rfl rfl | exact At.own' (i := 11) rfl rfl | exact At.own' (i := 12) rfl rfl) rfl ?_
      refine TL.on rfl rfl rfl (by first | rfl | exact decide_eq_false (by omega) | (simp; omega)) ?_
      refine TL.bin hF rfl rfl rfl rfl ?_
      refine TL.pickF hF rfl (by first | rfl | exact decide_eq_false (by omega) | (simp; omega)) rfl rfl ?_
      refine TL.move hF rfl rfl ?_
      refine TL.on rfl rfl rfl (by first | rfl | exact decide_eq_false (by omega) | (simp; omega)) ?_
      refine TL.fieldAddr hF rfl rfl ?_
      refine TL.on rfl rfl rfl (by first | rfl | exact decide_eq_false (by omega) | (simp; omega)) ?_
      refine TL.load hF rfl (by first | exact At.own' (i := 0) rfl rfl | exact At.own' (i := 1) rfl rfl | exact At.own' (i := 2) rfl rfl | exact At.own' (i := 3) rfl rfl | exact At.own' (i := 4) rfl rfl | exact At.own' (i := 5) rfl rfl | exact At.own' (i := 6) rfl rfl | exact At.own' (i := 7) rfl rfl | exact At.own' (i := 8) rfl rfl | exact At.own' (i := 9) rfl rfl | exact At.own' (i := 10) rfl rfl | exact At.own' (i := 11) rfl rfl | exact At.own' (i := 12) rfl rfl) rfl ?_
      refine TL.on rfl rfl rfl (by first | rfl | exact decide_eq_false (by omega) | (simp; omega)) ?_
      refine TL.move hF rfl rfl ?_
      refine TL.on rfl rfl rfl (by first | rfl | exact decide_eq_false (by omega) | (simp; omega)) ?_
      refine TL.len hF rfl rfl ?_
      refine TL.on rfl rfl rfl (by first | rfl | exact decide_eq_false (by omega) | (simp; omega)) ?_
      refine TL.bin hF rfl rfl rfl rfl ?_
      refine TL.pickF hF rfl (by first | rfl | exact decide_eq_false (by omega) | (simp; omega)) rfl rfl ?_
      refine TL.move hF rfl rfl ?_
      refine TL.on rfl rfl rfl (by first | rfl | exact decide_eq_false (by omega) | (simp; omega)) ?_
      refine TL.move hF rfl rfl ?_
      refine TL.on rfl rfl rfl (by first | rfl | exact decide_eq_false (by omega) | (simp; omega)) ?_
      refine TL.fieldAddr hF rfl rfl ?_
      refine TL.on rfl rfl rfl (by first | rfl | exact decide_eq_false (by omega) | (simp; omega)) ?_
      refine TL.load hF rfl (by first | exact At.own' (i := 0) rfl rfl | exact At.own' (i := 1) rfl rfl | exact At.own' (i := 2) rfl rfl | exact At.own' (i := 3) rfl rfl | exact At.own' (i := 4) rfl rfl | exact At.own' (i := 5) rfl rfl | exact At.own' (i := 6) rfl rfl | exact At.own' (i := 7) rfl rfl | exact At.own' (i := 8) rfl rfl | exact At.own' (i := 9) rfl rfl | exact At.own' (i := 10) rfl rfl | exact At.own' (i := 11) rfl rfl | exact At.own' (i := 12) rfl rfl) rfl ?_
      refine TL.on rfl rfl rfl (by first | rfl | exact decide_eq_false (by omega) | (simp; omega)) ?_
      refine TL.indexAddr hF rfl rfl (hadE q1 (by omega)) (by omega) (by omega) rfl ?_
      refine TL.on rfl rfl rfl (by first | rfl | exact decide_eq_false (by omega) | (simp; omega)) ?_
      refine TL.load hF rfl ((hfE q1 (by omega)).1.up (by simp)) rfl ?_
      refine TL.on rfl rfl rfl (by first | rfl | exact decide_eq_false (by omega) | (simp; omega)) ?_
      refine TL.len hF rfl rfl ?_
      refine TL.on rfl rfl rfl (by first | rfl | exact decide_eq_false (by omega) | (simp; omega)) ?_
      refine TL.move hF rfl rfl ?_
      refine TL.on rfl rfl rfl (by first | rfl | exact decide_eq_false (by omega) | (simp; omega)) ?_
      refine TL.len hF rfl rfl ?_
      refine TL.on rfl rfl rfl (by first | rfl | exact decide_eq_false (by omega) | (simp; omega)) ?_
      refine TL.bin hF rfl rfl rfl rfl ?_
      refine TL.pickF hF rfl (by first | rfl | exact decide_eq_false (by omega) | (simp; omega)) rfl rfl ?_
      refine TL.nil ?_
      refine TQ.then_n ?_
      refine T.cond_f rfl (by simp [hEg]) ?_
      refine T.skip ?_
      refine TQ.then_n ?_
      refine T.seq ?_
      refine T.seq ?_
      refine T.region ?_
      refine TL.fieldAddr hF rfl rfl ?_
      refine TL.load hF rfl (by first | exact At.own' (i := 0) rfl rfl | exact At.own' (i := 1) rfl rfl | exact At.own' (i := 2) rfl rfl | exact At.own' (i := 3) rfl rfl | exact At.own' (i := 4) rfl rfl | exact At.own' (i := 5) rfl rfl | exact At.own' (i := 6) rfl rfl | exact At.own' (i := 7) rfl rfl | exact At.own' (i := 8) rfl rfl | exact At.own' (i := 9) rfl rfl | exact At.own' (i := 10) rfl rfl | exact At.own' (i := 11) rfl rfl | exact At.own' (i := 12) rfl rfl) rfl ?_
      refine TL.bin hF rfl rfl rfl rfl ?_
      refine TL.nil ?_
      refine TQ.then_n ?_
      first | refine T.cond_d rfl (fun ht139 => ?_) (fun ht139 => ?_) | refine T.cond _ rfl (fun ht139 => ?_) (fun ht139 => ?_)
      · refine T.exit ?_
        refine TQ.then_x ?_
        refine TQ.block_x ?_
        refine TQ.then_n ?_
        refine T.region ?_
        refine TL.add hF rfl rfl (by omega) (by omega) rfl ?_
        refine TL.move hF rfl rfl ?_
        refine TL.nil ?_
        refine TQ.pop ?_
        exact TQ.round (k + 1) (by omega) (by omega) ⟨rfl, rfl, rfl, rfl, rfl, rfl, rfl, trivial⟩ rfl
      · refine T.skip ?_
        refine TQ.then_n ?_
        refine T.seq ?_
        refine T.region ?_
        refine TL.assign hF rfl rfl ?_
        refine TL.nil ?_
        refine TQ.then_n ?_
        refine T.seq ?_
        refine T.seq ?_
        refine T.region ?_
        refine TL.move hF rfl rfl ?_
        refine TL.fieldAddr hF rfl rfl ?_
        refine TL.load hF rfl (by first | exact At.own' (i := 0) rfl rfl | exact At.own' (i := 1) rfl rfl | exact At.own' (i := 2) rfl rfl | exact At.own' (i := 3) rfl rfl | exact At.own' (i := 4) rfl rfl | exact At.own' (i := 5) rfl rfl | exact At.own' (i := 6) rfl rfl | exact At.own' (i := 7) rfl rfl | exact At.own' (i := 8) rfl rfl | exact At.own' (i := 9) rfl rfl | exact At.own' (i := 10) rfl rfl | exact At.own' (i := 11) rfl rfl | exact At.own' (i := 12) rfl rfl) rfl ?_
        obtain ⟨p, rfl⟩ : ∃ p, q1 = p + 1 := ⟨q1 - 1, by omega⟩
        obtain ⟨hch, hlead, hoth⟩ := hlit p rfl
        subst hoth
        have hp1 := hfE (p + 1) (by omega)
        have hp0 := hfE p (by omega)
        rw [hEg] at hp1 hp0
        have hrow := hn.frow hil
        have hfew := hok.few i hil
        have hfr := hok.fr i hil
        rw [← nd_eq hil] at hrow hfew hfr
        refine TL.indexAddr hF rfl rfl (hn.ad (i := i) hil) (by omega) (by omega) rfl ?_
        refine TL.fieldAddr hF rfl rfl ?_
        refine TL.load hF rfl (v := .slice (nd L i).fa (nd L i).fr.length (nd L i).fc) (by rw [nd_eq hil]; exact hn.ro.at (i := i) hil 2 rfl) rfl ?_
        refine TL.len hF rfl rfl ?_
        refine TL.move hF rfl rfl ?_
        refine TL.nil ?_
        refine TQ.then_n ?_
        refine T.block ?_
        refine T.loop (ι := Nat) (fun j => j ≤ (nd L i).fr.length) (fun j => [(6, .bool false), (7, .slice (some ⟨g, 0, none⟩) L.length lc), (8, .slice ia' all.length ic), (12, .slice ea EL.length ec), (98, .slice da D.length dc), (99, .int .i64 (D.length : Int)), (100, .int .i64 (k : Int)), (18, ptr b18), (19, .bool (((nd L i).fr.take j).any fun f => decide ((zAt L pick all (p + 1)).2.2.W f.toNat ≠ (zAt L pick all p).2.2.W f.toNat))), (145, .slice (nd L i).fa (nd L i).fr.length (nd L i).fc), (146, .int .i64 ((nd L i).fr.length : Int)), (147, .int .i64 (j : Int))]) (fun _ => [[(b18, Obj.cells ([Value.int .i64 ((p + 1 : Nat) : Int), Value.int .i64 (i : Int), Value.int .i64 dw, Value.bool (decide ((zAt L pick all (p + 1)).2.2.W i ≠ (zAt L pick all p).2.2.W i))]).toArray 53 (0, 0))]]) (fun j => (nd L i).fr.length - j) 0 (Nat.zero_le _) ⟨rfl, rfl, rfl, rfl, rfl, rfl, rfl, rfl, rfl, rfl, rfl, rfl, trivial⟩ rfl ?_
        intro j hj
        refine T.seq ?_
        refine T.region ?_
        refine TL.bin hF rfl rfl rfl rfl ?_
        refine TL.nil ?_
        refine TQ.then_n ?_
        refine T.seq ?_
        first | refine T.cond_d rfl (fun ht148 => ?_) (fun ht148 => ?_) | refine T.cond _ rfl (fun ht148 => ?_) (fun ht148 => ?_)
        · refine T.skip ?_
          refine TQ.then_n ?_
          refine T.seq ?_
          refine T.block ?_
          refine T.seq ?_
          refine T.region ?_
          refine TL.indexAddr hF rfl rfl (hrow.adi (i := j) (by rw [List.length_map]; omega)) (by omega) (by omega) rfl ?_
          refine TL.load hF rfl (hrow.ro.int (i := j) (by omega)) rfl ?_
          refine TL.assign hF rfl rfl ?_
          refine TL.nil ?_
          refine TQ.then_n ?_
          have hjl : j < (nd L i).fr.length := by omega
          have hf := hfr ((nd L i).fr[j]) (List.getElem_mem _)
          have hce : (((nd L i).fr.take (j + 1)).any fun f => decide ((zAt L pick all (p + 1)).2.2.W f.toNat ≠ (zAt L pick all p).2.2.W f.toNat)) = ((((nd L i).fr.take j).any fun f => decide ((zAt L pick all (p + 1)).2.2.W f.toNat ≠ (zAt L pick all p).2.2.W f.toNat)) || decide ((zAt L pick all (p + 1)).2.2.W ((nd L i).fr[j]).toNat ≠ (zAt L pick all p).2.2.W ((nd L i).fr[j]).toNat)) := by rw [List.take_succ_eq_append_getElem hjl, List.any_append]; simp
          rcases hcb : (((nd L i).fr.take j).any fun f => decide ((zAt L pick all (p + 1)).2.2.W f.toNat ≠ (zAt L pick all p).2.2.W f.toNat)) with _ | _
          · refine T.draw ?_
            refine DR.stepV [_] rfl [(19, _, none)] rfl rfl ⟨⟨rfl, by kernel_rfl⟩, trivial⟩ (fun ext => TL.move hF rfl rfl TL.fin) ?_
            refine DR.stepV [_, _] rfl [(151, _, some 0)] rfl rfl ⟨⟨rfl, rfl, rfl⟩, trivial⟩ (fun ext => TL.move hF rfl rfl TL.fin) ?_
            refine DR.stepV [_, _, _] rfl [(12, _, none), (152, _, some 1)] rfl rfl ⟨⟨rfl, by kernel_rfl⟩, ⟨rfl, rfl, rfl⟩, trivial⟩ (fun ext => TL.on rfl rfl rfl rfl <| TL.move hF rfl rfl TL.fin) ?_
            refine DR.stepV [_, _, _, _] rfl [(18, _, none), (152, _, some 1)] rfl rfl ⟨⟨rfl, by kernel_rfl⟩, ⟨rfl, rfl, rfl⟩, trivial⟩ (fun ext => TL.on rfl rfl rfl rfl <| TL.fieldAddr hF rfl rfl TL.fin) ?_
            refine DR.stepV [_, _, _, _, _] rfl [(154, _, some 3), (152, _, some 1)] rfl rfl ⟨⟨rfl, rfl, rfl⟩, ⟨rfl, rfl, rfl⟩, trivial⟩ (fun ext => TL.on rfl rfl rfl rfl <| TL.load hF rfl (by first | exact At.own' (i := 0) rfl rfl | exact At.own' (i := 1) rfl rfl | exact At.own' (i := 2) rfl rfl | exact At.own' (i := 3) rfl rfl | exact At.own' (i := 4) rfl rfl | exact At.own' (i := 5) rfl rfl | exact At.own' (i := 6) rfl rfl | exact At.own' (i := 7) rfl rfl | exact At.own' (i := 8) rfl rfl | exact At.own' (i := 9) rfl rfl | exact At.own' (i := 10) rfl rfl | exact At.own' (i := 11) rfl rfl | exact At.own' (i := 12) rfl rfl) rfl TL.fin) ?_
            refine DR.stepV [_, _, _, _, _, _] rfl [(153, _, some 2), (155, _, some 4), (152, _, some 1)] rfl rfl ⟨⟨rfl, rfl, rfl⟩, ⟨rfl, rfl, rfl⟩, ⟨rfl, rfl, rfl⟩, trivial⟩ (fun ext => TL.on rfl rfl rfl rfl <| TL.indexAddr hF rfl rfl (hadE (p + 1) (by omega)) (by omega) (by omega) rfl TL.fin) ?_
            refine DR.stepV [_, _, _, _, _, _, _] rfl [(156, _, some 5), (152, _, some 1)] rfl rfl ⟨⟨rfl, rfl, rfl⟩, ⟨rfl, rfl, rfl⟩, trivial⟩ (fun ext => TL.on rfl rfl rfl rfl <| TL.load hF rfl (hp1.1.up (by simp)) rfl TL.fin) ?_
            refine DR.stepV [_, _, _, _, _, _, _, _] rfl [(21, _, none), (152, _, some 1)] rfl rfl ⟨⟨rfl, by kernel_rfl⟩, ⟨rfl, rfl, rfl⟩, trivial⟩ (fun ext => TL.on rfl rfl rfl rfl <| TL.move hF rfl rfl TL.fin) ?_
            refine DR.stepV [_, _, _, _, _, _, _, _, _] rfl [(157, _, some 6), (158, _, some 7), (152, _, some 1)] rfl rfl ⟨⟨rfl, rfl, rfl⟩, ⟨rfl, rfl, rfl⟩, ⟨rfl, rfl, rfl⟩, trivial⟩ (fun ext => TL.on rfl rfl rfl rfl <| TL.indexAddr hF rfl rfl (hp1.2.adi (i := ((nd L i).fr[j]).toNat) (by simp; omega)) (by omega) (by simp; omega) rfl TL.fin) ?_
            refine DR.stepV [_, _, _, _, _, _, _, _, _, _] rfl [(159, _, some 8), (152, _, some 1)] rfl rfl ⟨⟨rfl, rfl, rfl⟩, ⟨rfl, rfl, rfl⟩, trivial⟩ (fun ext => TL.on rfl rfl rfl rfl <| TL.load hF rfl (v := .int .i64 ((zAt L pick all (p + 1)).2.2.W ((nd L i).fr[j]).toNat)) (range_map_row (hp1.2.up (by simp)) (by omega)) rfl TL.fin) ?_
            refine DR.stepV [_, _, _, _, _, _, _, _, _, _, _] rfl [(12, _, none), (152, _, some 1)] rfl rfl ⟨⟨rfl, by kernel_rfl⟩, ⟨rfl, rfl, rfl⟩, trivial⟩ (fun ext => TL.on rfl rfl rfl rfl <| TL.move hF rfl rfl TL.fin) ?_
            refine DR.stepV [_, _, _, _, _, _, _, _, _, _, _, _] rfl [(18, _, none), (152, _, some 1)] rfl rfl ⟨⟨rfl, by kernel_rfl⟩, ⟨rfl, rfl, rfl⟩, trivial⟩ (fun ext => TL.on rfl rfl rfl rfl <| TL.fieldAddr hF rfl rfl TL.fin) ?_
            refine DR.stepV [_, _, _, _, _, _, _, _, _, _, _, _, _] rfl [(162, _, some 11), (152, _, some 1)] rfl rfl ⟨⟨rfl, rfl, rfl⟩, ⟨rfl, rfl, rfl⟩, trivial⟩ (fun ext => TL.on rfl rfl rfl rfl <| TL.load hF rfl (by first | exact At.own' (i := 0) rfl rfl | exact At.own' (i := 1) rfl rfl | exact At.own' (i := 2) rfl rfl | exact At.own' (i := 3) rfl rfl | exact At.own' (i := 4) rfl rfl | exact At.own' (i := 5) rfl rfl | exact At.own' (i := 6) rfl rfl | exact At.own' (i := 7) rfl rfl | exact At.own' (i := 8) rfl rfl | exact At.own' (i := 9) rfl rfl | exact At.own' (i := 10) rfl rfl | exact At.own' (i := 11) rfl rfl | exact At.own' (i := 12) rfl rfl) rfl TL.fin) ?_
            refine DR.stepV [_, _, _, _, _, _, _, _, _, _, _, _, _, _] rfl [(163, _, some 12), (152, _, some 1)] rfl rfl ⟨⟨rfl, rfl, rfl⟩, ⟨rfl, rfl, rfl⟩, trivial⟩ (fun ext => TL.on rfl rfl rfl rfl <| TL.sub hF rfl rfl (by omega) (by omega) rfl TL.fin) ?_
            refine DR.stepV [_, _, _, _, _, _, _, _, _, _, _, _, _, _, _] rfl [(161, _, some 10), (164, _, some 13), (152, _, some 1)] rfl rfl ⟨⟨rfl, rfl, rfl⟩, ⟨rfl, rfl, rfl⟩, ⟨rfl, rfl, rfl⟩, trivial⟩ (fun ext => TL.on rfl rfl rfl rfl <| TL.indexAddr hF rfl rfl (hadE p (by omega)) (by omega) (by omega) rfl TL.fin) ?_
            refine DR.stepV [_, _, _, _, _, _, _, _, _, _, _, _, _, _, _, _] rfl [(165, _, some 14), (152, _, some 1)] rfl rfl ⟨⟨rfl, rfl, rfl⟩, ⟨rfl, rfl, rfl⟩, trivial⟩ (fun ext => TL.on rfl rfl rfl rfl <| TL.load hF rfl (v := .slice (fE p).1 ((List.range L.length).map (zAt L pick all p).2.2.W).length (fE p).2) (by rw [show (((p + 1 : Nat) : Int) - 1).toNat = p by omega]; exact hp0.1.up (by simp)) rfl TL.fin) ?_
            refine DR.stepV [_, _, _, _, _, _, _, _, _, _, _, _, _, _, _, _, _] rfl [(21, _, none), (152, _, some 1)] rfl rfl ⟨⟨rfl, by kernel_rfl⟩, ⟨rfl, rfl, rfl⟩, trivial⟩ (fun ext => TL.on rfl rfl rfl rfl <| TL.move hF rfl rfl TL.fin) ?_
            refine DR.stepV [_, _, _, _, _, _, _, _, _, _, _, _, _, _, _, _, _, _] rfl [(166, _, some 15), (167, _, some 16), (152, _, some 1)] rfl rfl ⟨⟨rfl, rfl, rfl⟩, ⟨rfl, rfl, rfl⟩, ⟨rfl, rfl, rfl⟩, trivial⟩ (fun ext => TL.on rfl rfl rfl rfl <| TL.indexAddr hF rfl rfl (hp0.2.adi (i := ((nd L i).fr[j]).toNat) (by simp; omega)) (by omega) (by simp; omega) rfl TL.fin) ?_
            refine DR.stepV [_, _, _, _, _, _, _, _, _, _, _, _, _, _, _, _, _, _, _] rfl [(168, _, some 17), (152, _, some 1)] rfl rfl ⟨⟨rfl, rfl, rfl⟩, ⟨rfl, rfl, rfl⟩, trivial⟩ (fun ext => TL.on rfl rfl rfl rfl <| TL.load hF rfl (v := .int .i64 ((zAt L pick all p).2.2.W ((nd L i).fr[j]).toNat)) (range_map_row (hp0.2.up (by simp)) (by omega)) rfl TL.fin) ?_
            refine DR.done [(169, _), (168, _), (167, _), (166, _), (165, _), (164, _), (163, _), (162, _), (161, _), (160, _), (159, _), (158, _), (157, _), (156, _), (155, _), (154, _), (153, _), (152, _), (151, _)] [_, _, _] mixed (by kernel_rfl) (by kernel_rfl) (by kernel_rfl) rfl rfl ?_
            refine TL.on rfl rfl rfl rfl ?_
            refine TL.bin hF rfl rfl rfl rfl ?_
            refine TL.pickF hF rfl rfl rfl rfl ?_
            refine TL.assign hF rfl rfl ?_
            refine TL.nil ?_
            refine TQ.block_n ?_
            refine TQ.then_n ?_
            refine T.region ?_
            refine TL.add hF rfl rfl (by omega) (by omega) rfl ?_
            refine TL.move hF rfl rfl ?_
            refine TL.nil ?_
            refine TQ.round (j + 1) (by omega) (by omega) ⟨rfl, rfl, rfl, rfl, rfl, rfl, rfl, rfl, congrArg (fun z => some (Value.bool z)) (by rw [hce, hcb]; simp), rfl, rfl, rfl, trivial⟩ rfl
          · refine T.draw ?_
            refine DR.stepV [_] rfl [(19, _, none)] rfl rfl ⟨⟨rfl, by kernel_rfl⟩, trivial⟩ (fun ext => TL.move hF rfl rfl TL.fin) ?_
            refine DR.stepV [_, _] rfl [(151, _, some 0)] rfl rfl ⟨⟨rfl, rfl, rfl⟩, trivial⟩ (fun ext => TL.move hF rfl rfl TL.fin) ?_
            refine DR.stepV [_, _, _] rfl [(12, _, none), (152, _, some 1)] rfl rfl ⟨⟨rfl, by kernel_rfl⟩, ⟨rfl, rfl, rfl⟩, trivial⟩ (fun ext => TL.off hF rfl rfl rfl rfl rfl TL.fin) ?_
            refine DR.stepV [_, _, _, _] rfl [(18, _, none), (152, _, some 1)] rfl rfl ⟨⟨rfl, by kernel_rfl⟩, ⟨rfl, rfl, rfl⟩, trivial⟩ (fun ext => TL.off hF rfl rfl rfl rfl rfl TL.fin) ?_
            refine DR.stepV [_, _, _, _, _] rfl [(154, _, some 3), (152, _, some 1)] rfl rfl ⟨⟨rfl, rfl, rfl⟩, ⟨rfl, rfl, rfl⟩, trivial⟩ (fun ext => TL.off hF rfl rfl rfl rfl rfl TL.fin) ?_
            refine DR.stepV [_, _, _, _, _, _] rfl [(153, _, some 2), (155, _, some 4), (152, _, some 1)] rfl rfl ⟨⟨rfl, rfl, rfl⟩, ⟨rfl, rfl, rfl⟩, ⟨rfl, rfl, rfl⟩, trivial⟩ (fun ext => TL.off hF rfl rfl rfl rfl rfl TL.fin) ?_
            refine DR.stepV [_, _, _, _, _, _, _] rfl [(156, _, some 5), (152, _, some 1)] rfl rfl ⟨⟨rfl, rfl, rfl⟩, ⟨rfl, rfl, rfl⟩, trivial⟩ (fun ext => TL.off hF rfl rfl rfl rfl rfl TL.fin) ?_
            refine DR.stepV [_, _, _, _, _, _, _, _] rfl [(21, _, none), (152, _, some 1)] rfl rfl ⟨⟨rfl, by kernel_rfl⟩, ⟨rfl, rfl, rfl⟩, trivial⟩ (fun ext => TL.off hF rfl rfl rfl rfl rfl TL.fin) ?_
            refine DR.stepV [_, _, _, _, _, _, _, _, _] rfl [(157, _, some 6), (158, _, some 7), (152, _, some 1)] rfl rfl ⟨⟨rfl, rfl, rfl⟩, ⟨rfl, rfl, rfl⟩, ⟨rfl, rfl, rfl⟩, trivial⟩ (fun ext => TL.off hF rfl rfl rfl rfl rfl TL.fin) ?_
            refine DR.stepV [_, _, _, _, _, _, _, _, _, _] rfl [(159, _, some 8), (152, _, some 1)] rfl rfl ⟨⟨rfl, rfl, rfl⟩, ⟨rfl, rfl, rfl⟩, trivial⟩ (fun ext => TL.off hF rfl rfl rfl rfl rfl TL.fin) ?_
            refine DR.stepV [_, _, _, _, _, _, _, _, _, _, _] rfl [(12, _, none), (152, _, some 1)] rfl rfl ⟨⟨rfl, by kernel_rfl⟩, ⟨rfl, rfl, rfl⟩, trivial⟩ (fun ext => TL.off hF rfl rfl rfl rfl rfl TL.fin) ?_
            refine DR.stepV [_, _, _, _, _, _, _, _, _, _, _, _] rfl [(18, _, none), (152, _, some 1)] rfl rfl ⟨⟨rfl, by kernel_rfl⟩, ⟨rfl, rfl, rfl⟩, trivial⟩ (fun ext => TL.off hF rfl rfl rfl rfl rfl TL.fin) ?_
            refine DR.stepV [_, _, _, _, _, _, _, _, _, _, _, _, _] rfl [(162, _, some 11), (152, _, some 1)] rfl rfl ⟨⟨rfl, rfl, rfl⟩, ⟨rfl, rfl, rfl⟩, trivial⟩ (fun ext => TL.off hF rfl rfl rfl rfl rfl TL.fin) ?_
            refine DR.stepV [_, _, _, _, _, _, _, _, _, _, _, _, _, _] rfl [(163, _, some 12), (152, _, some 1)] rfl rfl ⟨⟨rfl, rfl, rfl⟩, ⟨rfl, rfl, rfl⟩, trivial⟩ (fun ext => TL.off hF rfl rfl rfl rfl rfl TL.fin) ?_
            refine DR.stepV [_, _, _, _, _, _, _, _, _, _, _, _, _, _, _] rfl [(161, _, some 10), (164, _, some 13), (152, _, some 1)] rfl rfl ⟨⟨rfl, rfl, rfl⟩, ⟨rfl, rfl, rfl⟩, ⟨rfl, rfl, rfl⟩, trivial⟩ (fun ext => TL.off hF rfl rfl rfl rfl rfl TL.fin) ?_
            refine DR.stepV [_, _, _, _, _, _, _, _, _, _, _, _, _, _, _, _] rfl [(165, _, some 14), (152, _, some 1)] rfl rfl ⟨⟨rfl, rfl, rfl⟩, ⟨rfl, rfl, rfl⟩, trivial⟩ (fun ext => TL.off hF rfl rfl rfl rfl rfl TL.fin) ?_
            refine DR.stepV [_, _, _, _, _, _, _, _, _, _, _, _, _, _, _, _, _] rfl [(21, _, none), (152, _, some 1)] rfl rfl ⟨⟨rfl, by kernel_rfl⟩, ⟨rfl, rfl, rfl⟩, trivial⟩ (fun ext => TL.off hF rfl rfl rfl rfl rfl TL.fin) ?_
            refine DR.stepV [_, _, _, _, _, _, _, _, _, _, _, _, _, _, _, _, _, _] rfl [(166, _, some 15), (167, _, some 16), (152, _, some 1)] rfl rfl ⟨⟨rfl, rfl, rfl⟩, ⟨rfl, rfl, rfl⟩, ⟨rfl, rfl, rfl⟩, trivial⟩ (fun ext => TL.off hF rfl rfl rfl rfl rfl TL.fin) ?_
            refine DR.stepV [_, _, _, _, _, _, _, _, _, _, _, _, _, _, _, _, _, _, _] rfl [(168, _, some 17), (152, _, some 1)] rfl rfl ⟨⟨rfl, rfl, rfl⟩, ⟨rfl, rfl, rfl⟩, trivial⟩ (fun ext => TL.off hF rfl rfl rfl rfl rfl TL.fin) ?_
            refine DR.done [(169, _), (168, _), (167, _), (166, _), (165, _), (164, _), (163, _), (162, _), (161, _), (160, _), (159, _), (158, _), (157, _), (156, _), (155, _), (154, _), (153, _), (152, _), (151, _)] [_, _, _] mixed (by kernel_rfl) (by kernel_rfl) (by kernel_rfl) rfl rfl ?_
            refine TL.off hF rfl rfl rfl rfl rfl ?_
            refine TL.pickT hF rfl rfl rfl rfl ?_
            refine TL.assign hF rfl rfl ?_
            refine TL.nil ?_
            refine TQ.block_n ?_
            refine TQ.then_n ?_
            refine T.region ?_
            refine TL.add hF rfl rfl (by omega) (by omega) rfl ?_
            refine TL.move hF rfl rfl ?_
            refine TL.nil ?_
            refine TQ.round (j + 1) (by omega) (by omega) ⟨rfl, rfl, rfl, rfl, rfl, rfl, rfl, rfl, congrArg (fun z => some (Value.bool z)) (by rw [hce, hcb]; simp), rfl, rfl, rfl, trivial⟩ rfl
        · refine T.exit ?_
          refine TQ.then_x ?_
          refine TQ.then_x ?_
          refine TQ.block_x ?_
          refine TQ.then_n ?_
          refine T.seq ?_
          have hjn : j = (nd L i).fr.length := by omega
          subst hjn
          rw [List.take_length, hch]
          refine T.drawH 37 mixed ?_
          refine DH.pure (i := 0) [(19, _, none)] rfl rfl rfl rfl ⟨⟨rfl, by kernel_rfl⟩, trivial⟩ (fun _ ext => TL.move hF rfl rfl TL.fin) ?_
          refine DH.pure (i := 1) [(173, _, some 0)] rfl rfl rfl rfl ⟨⟨rfl, rfl, rfl⟩, trivial⟩ (fun _ ext => TL.not hF rfl rfl TL.fin) ?_
          refine DH.pure (i := 2) [(174, _, some 1)] rfl rfl rfl rfl ⟨⟨rfl, rfl, rfl⟩, trivial⟩ (fun _ ext => TL.move hF rfl rfl TL.fin) ?_
          refine DH.pure (i := 3) [(7, _, none), (175, _, some 2)] rfl rfl rfl rfl ⟨⟨rfl, by kernel_rfl⟩, ⟨rfl, rfl, rfl⟩, trivial⟩ (fun _ ext => TL.on rfl rfl rfl rfl <| TL.move hF rfl rfl TL.fin) ?_
          refine DH.pure (i := 4) [(8, _, none), (175, _, some 2)] rfl rfl rfl rfl ⟨⟨rfl, by kernel_rfl⟩, ⟨rfl, rfl, rfl⟩, trivial⟩ (fun _ ext => TL.on rfl rfl rfl rfl <| TL.move hF rfl rfl TL.fin) ?_
          refine DH.pure (i := 5) [(18, _, none), (175, _, some 2)] rfl rfl rfl rfl ⟨⟨rfl, by kernel_rfl⟩, ⟨rfl, rfl, rfl⟩, trivial⟩ (fun _ ext => TL.on rfl rfl rfl rfl <| TL.fieldAddr hF rfl rfl TL.fin) ?_
          refine DH.read (i := 6) [(178, _, some 5), (175, _, some 2)] rfl rfl rfl rfl ⟨⟨rfl, rfl, rfl⟩, ⟨rfl, rfl, rfl⟩, trivial⟩ (fun ext => TL.on rfl rfl rfl rfl <| TL.load hF rfl (by first | exact At.own' (i := 0) rfl rfl | exact At.own' (i := 1) rfl rfl | exact At.own' (i := 2) rfl rfl | exact At.own' (i := 3) rfl rfl | exact At.own' (i := 4) rfl rfl | exact At.own' (i := 5) rfl rfl | exact At.own' (i := 6) rfl rfl | exact At.own' (i := 7) rfl rfl | exact At.own' (i := 8) rfl rfl | exact At.own' (i := 9) rfl rfl | exact At.own' (i := 10) rfl rfl | exact At.own' (i := 11) rfl rfl | exact At.own' (i := 12) rfl rfl) rfl TL.fin) ?_
          refine DH.pure (i := 8) [(18, _, none), (175, _, some 2)] rfl rfl rfl rfl ⟨⟨rfl, by kernel_rfl⟩, ⟨rfl, rfl, rfl⟩, trivial⟩ (fun _ ext => TL.on rfl rfl rfl rfl <| TL.fieldAddr hF rfl rfl TL.fin) ?_
          refine DH.read (i := 9) [(181, _, some 8), (175, _, some 2)] rfl rfl rfl rfl ⟨⟨rfl, rfl, rfl⟩, ⟨rfl, rfl, rfl⟩, trivial⟩ (fun ext => TL.on rfl rfl rfl rfl <| TL.load hF rfl (by first | exact At.own' (i := 0) rfl rfl | exact At.own' (i := 1) rfl rfl | exact At.own' (i := 2) rfl rfl | exact At.own' (i := 3) rfl rfl | exact At.own' (i := 4) rfl rfl | exact At.own' (i := 5) rfl rfl | exact At.own' (i := 6) rfl rfl | exact At.own' (i := 7) rfl rfl | exact At.own' (i := 8) rfl rfl | exact At.own' (i := 9) rfl rfl | exact At.own' (i := 10) rfl rfl | exact At.own' (i := 11) rfl rfl | exact At.own' (i := 12) rfl rfl) rfl TL.fin) ?_
          refine DH.k1 (by kernel_rfl) (by kernel_rfl) (by kernel_rfl) (by kernel_rfl) (HBK.mk (h := 7) [9] [(176, _, some 3), (177, _, some 4), (179, _, some 6), (175, _, some 2)] rfl rfl rfl ⟨⟨rfl, rfl, rfl⟩, ⟨rfl, rfl, rfl⟩, ⟨rfl, rfl, rfl⟩, ⟨rfl, rfl, rfl⟩, trivial⟩ (by kernel_rfl) (fun ext => ?_))
          refine TL.on rfl rfl rfl rfl ?_
          refine TL.call hF (leads_fn (now := p + 1) hn hi hr (by omega) hicap (by omega)) rfl rfl ?_
          rintro _ _ ⟨lb, rfl, rfl⟩
          refine TL.finK ⟨⟨_, rfl, _, _, [(181, _, some 8), (175, _, some 2)], rfl, rfl, ⟨⟨rfl, rfl, rfl⟩, ⟨rfl, rfl, rfl⟩, trivial⟩, fun ext => TL.on rfl rfl rfl rfl <| TL.load hF rfl (by first | exact At.own' (i := 0) rfl rfl | exact At.own' (i := 1) rfl rfl | exact At.own' (i := 2) rfl rfl | exact At.own' (i := 3) rfl rfl | exact At.own' (i := 4) rfl rfl | exact At.own' (i := 5) rfl rfl | exact At.own' (i := 6) rfl rfl | exact At.own' (i := 7) rfl rfl | exact At.own' (i := 8) rfl rfl | exact At.own' (i := 9) rfl rfl | exact At.own' (i := 10) rfl rfl | exact At.own' (i := 11) rfl rfl | exact At.own' (i := 12) rfl rfl) rfl TL.fin⟩, trivial⟩ ?_
          refine DH.pure (i := 10) [(180, _, some 7), (182, _, some 9), (175, _, some 2)] rfl rfl rfl rfl ⟨⟨rfl, rfl, rfl⟩, ⟨rfl, rfl, rfl⟩, ⟨rfl, rfl, rfl⟩, trivial⟩ (fun _ ext => TL.on rfl rfl rfl rfl <| TL.indexAddr hF rfl rfl ⟨_, rfl, rfl⟩ (by omega) (by omega) rfl TL.fin) ?_
          refine DH.read (i := 11) [(183, _, some 10), (175, _, some 2)] rfl rfl rfl rfl ⟨⟨rfl, rfl, rfl⟩, ⟨rfl, rfl, rfl⟩, trivial⟩ (fun ext => TL.on rfl rfl rfl rfl <| TL.load hF rfl (bseg_at (f := leadF L all (p + 1)) (n := L.length) (b := lb) (j := i) List.mem_cons_self hil) rfl TL.fin) ?_
          refine DH.pure (i := 12) [(184, _, some 11), (175, _, some 2)] rfl rfl rfl rfl ⟨⟨rfl, rfl, rfl⟩, ⟨rfl, rfl, rfl⟩, trivial⟩ (fun _ ext => TL.on rfl rfl rfl rfl <| TL.not hF rfl rfl TL.fin) ?_
          refine DH.pure (i := 13) [(175, _, some 2), (185, _, some 12)] rfl rfl rfl rfl ⟨⟨rfl, rfl, rfl⟩, ⟨rfl, rfl, rfl⟩, trivial⟩ (fun _ ext => TL.pickF hF rfl rfl rfl rfl TL.fin) ?_
          refine DH.pure (i := 14) [(186, _, some 13)] rfl rfl rfl rfl ⟨⟨rfl, rfl, rfl⟩, trivial⟩ (fun _ ext => TL.move hF rfl rfl TL.fin) ?_
          refine DH.pure (i := 15) [(18, _, none), (187, _, some 14)] rfl rfl rfl rfl ⟨⟨rfl, by kernel_rfl⟩, ⟨rfl, rfl, rfl⟩, trivial⟩ (fun _ ext => TL.on rfl rfl rfl (by rw [hlead]; rfl) <| TL.fieldAddr hF rfl rfl TL.fin) ?_
          refine DH.read (i := 16) [(188, _, some 15), (187, _, some 14)] rfl rfl rfl rfl ⟨⟨rfl, rfl, rfl⟩, ⟨rfl, rfl, rfl⟩, trivial⟩ (fun ext => TL.on rfl rfl rfl (by rw [hlead]; rfl) <| TL.load hF rfl (by first | exact At.own' (i := 0) rfl rfl | exact At.own' (i := 1) rfl rfl | exact At.own' (i := 2) rfl rfl | exact At.own' (i := 3) rfl rfl | exact At.own' (i := 4) rfl rfl | exact At.own' (i := 5) rfl rfl | exact At.own' (i := 6) rfl rfl | exact At.own' (i := 7) rfl rfl | exact At.own' (i := 8) rfl rfl | exact At.own' (i := 9) rfl rfl | exact At.own' (i := 10) rfl rfl | exact At.own' (i := 11) rfl rfl | exact At.own' (i := 12) rfl rfl) rfl TL.fin) ?_
          refine DH.pure (i := 17) [(12, _, none), (187, _, some 14)] rfl rfl rfl rfl ⟨⟨rfl, by kernel_rfl⟩, ⟨rfl, rfl, rfl⟩, trivial⟩ (fun _ ext => TL.on rfl rfl rfl (by rw [hlead]; rfl) <| TL.move hF rfl rfl TL.fin) ?_
          refine DH.pure (i := 18) [(18, _, none), (187, _, some 14)] rfl rfl rfl rfl ⟨⟨rfl, by kernel_rfl⟩, ⟨rfl, rfl, rfl⟩, trivial⟩ (fun _ ext => TL.on rfl rfl rfl (by rw [hlead]; rfl) <| TL.fieldAddr hF rfl rfl TL.fin) ?_
          refine DH.read (i := 19) [(191, _, some 18), (187, _, some 14)] rfl rfl rfl rfl ⟨⟨rfl, rfl, rfl⟩, ⟨rfl, rfl, rfl⟩, trivial⟩ (fun ext => TL.on rfl rfl rfl (by rw [hlead]; rfl) <| TL.load hF rfl (by first | exact At.own' (i := 0) rfl rfl | exact At.own' (i := 1) rfl rfl | exact At.own' (i := 2) rfl rfl | exact At.own' (i := 3) rfl rfl | exact At.own' (i := 4) rfl rfl | exact At.own' (i := 5) rfl rfl | exact At.own' (i := 6) rfl rfl | exact At.own' (i := 7) rfl rfl | exact At.own' (i := 8) rfl rfl | exact At.own' (i := 9) rfl rfl | exact At.own' (i := 10) rfl rfl | exact At.own' (i := 11) rfl rfl | exact At.own' (i := 12) rfl rfl) rfl TL.fin) ?_
          refine DH.pure (i := 20) [(190, _, some 17), (192, _, some 19), (187, _, some 14)] rfl rfl rfl rfl ⟨⟨rfl, rfl, rfl⟩, ⟨rfl, rfl, rfl⟩, ⟨rfl, rfl, rfl⟩, trivial⟩ (fun _ ext => TL.on rfl rfl rfl (by rw [hlead]; rfl) <| TL.indexAddr hF rfl rfl (hadE (p + 1) (by omega)) (by omega) (by omega) rfl TL.fin) ?_
          refine DH.read (i := 21) [(193, _, some 20), (187, _, some 14)] rfl rfl rfl rfl ⟨⟨rfl, rfl, rfl⟩, ⟨rfl, rfl, rfl⟩, trivial⟩ (fun ext => TL.on rfl rfl rfl (by rw [hlead]; rfl) <| TL.load hF rfl (hp1.1.up (by simp)) rfl TL.fin) ?_
          refine DH.pure (i := 22) [(18, _, none), (187, _, some 14)] rfl rfl rfl rfl ⟨⟨rfl, by kernel_rfl⟩, ⟨rfl, rfl, rfl⟩, trivial⟩ (fun _ ext => TL.on rfl rfl rfl (by rw [hlead]; rfl) <| TL.fieldAddr hF rfl rfl TL.fin) ?_
          refine DH.read (i := 23) [(195, _, some 22), (187, _, some 14)] rfl rfl rfl rfl ⟨⟨rfl, rfl, rfl⟩, ⟨rfl, rfl, rfl⟩, trivial⟩ (fun ext => TL.on rfl rfl rfl (by rw [hlead]; rfl) <| TL.load hF rfl (by first | exact At.own' (i := 0) rfl rfl | exact At.own' (i := 1) rfl rfl | exact At.own' (i := 2) rfl rfl | exact At.own' (i := 3) rfl rfl | exact At.own' (i := 4) rfl rfl | exact At.own' (i := 5) rfl rfl | exact At.own' (i := 6) rfl rfl | exact At.own' (i := 7) rfl rfl | exact At.own' (i := 8) rfl rfl | exact At.own' (i := 9) rfl rfl | exact At.own' (i := 10) rfl rfl | exact At.own' (i := 11) rfl rfl | exact At.own' (i := 12) rfl rfl) rfl TL.fin) ?_
          refine DH.pure (i := 24) [(194, _, some 21), (196, _, some 23), (187, _, some 14)] rfl rfl rfl rfl ⟨⟨rfl, rfl, rfl⟩, ⟨rfl, rfl, rfl⟩, ⟨rfl, rfl, rfl⟩, trivial⟩ (fun _ ext => TL.on rfl rfl rfl (by rw [hlead]; rfl) <| TL.indexAddr hF rfl rfl (hp1.2.adi (i := i) (by simp; omega)) (by omega) (by simp; omega) rfl TL.fin) ?_
          refine DH.read (i := 25) [(197, _, some 24), (187, _, some 14)] rfl rfl rfl rfl ⟨⟨rfl, rfl, rfl⟩, ⟨rfl, rfl, rfl⟩, trivial⟩ (fun ext => TL.on rfl rfl rfl (by rw [hlead]; rfl) <| TL.load hF rfl (v := .int .i64 ((zAt L pick all (p + 1)).2.2.W i)) (range_map_row (hp1.2.up (by simp)) hil) rfl TL.fin) ?_
          refine DH.pure (i := 26) [(12, _, none), (187, _, some 14)] rfl rfl rfl rfl ⟨⟨rfl, by kernel_rfl⟩, ⟨rfl, rfl, rfl⟩, trivial⟩ (fun _ ext => TL.on rfl rfl rfl (by rw [hlead]; rfl) <| TL.move hF rfl rfl TL.fin) ?_
          refine DH.pure (i := 27) [(18, _, none), (187, _, some 14)] rfl rfl rfl rfl ⟨⟨rfl, by kernel_rfl⟩, ⟨rfl, rfl, rfl⟩, trivial⟩ (fun _ ext => TL.on rfl rfl rfl (by rw [hlead]; rfl) <| TL.fieldAddr hF rfl rfl TL.fin) ?_
          refine DH.read (i := 28) [(200, _, some 27), (187, _, some 14)] rfl rfl rfl rfl ⟨⟨rfl, rfl, rfl⟩, ⟨rfl, rfl, rfl⟩, trivial⟩ (fun ext => TL.on rfl rfl rfl (by rw [hlead]; rfl) <| TL.load hF rfl (by first | exact At.own' (i := 0) rfl rfl | exact At.own' (i := 1) rfl rfl | exact At.own' (i := 2) rfl rfl | exact At.own' (i := 3) rfl rfl | exact At.own' (i := 4) rfl rfl | exact At.own' (i := 5) rfl rfl | exact At.own' (i := 6) rfl rfl | exact At.own' (i := 7) rfl rfl | exact At.own' (i := 8) rfl rfl | exact At.own' (i := 9) rfl rfl | exact At.own' (i := 10) rfl rfl | exact At.own' (i := 11) rfl rfl | exact At.own' (i := 12) rfl rfl) rfl TL.fin) ?_
          refine DH.pure (i := 29) [(201, _, some 28), (187, _, some 14)] rfl rfl rfl rfl ⟨⟨rfl, rfl, rfl⟩, ⟨rfl, rfl, rfl⟩, trivial⟩ (fun _ ext => TL.on rfl rfl rfl (by rw [hlead]; rfl) <| TL.sub hF rfl rfl (by omega) (by omega) rfl TL.fin) ?_
          refine DH.pure (i := 30) [(199, _, some 26), (202, _, some 29), (187, _, some 14)] rfl rfl rfl rfl ⟨⟨rfl, rfl, rfl⟩, ⟨rfl, rfl, rfl⟩, ⟨rfl, rfl, rfl⟩, trivial⟩ (fun _ ext => TL.on rfl rfl rfl (by rw [hlead]; rfl) <| TL.indexAddr hF rfl rfl (hadE p (by omega)) (by omega) (by omega) rfl TL.fin) ?_
          refine DH.read (i := 31) [(203, _, some 30), (187, _, some 14)] rfl rfl rfl rfl ⟨⟨rfl, rfl, rfl⟩, ⟨rfl, rfl, rfl⟩, trivial⟩ (fun ext => TL.on rfl rfl rfl (by rw [hlead]; rfl) <| TL.load hF rfl (v := .slice (fE p).1 ((List.range L.length).map (zAt L pick all p).2.2.W).length (fE p).2) (by rw [show (((p + 1 : Nat) : Int) - 1).toNat = p by omega]; exact hp0.1.up (by simp)) rfl TL.fin) ?_
          refine DH.pure (i := 32) [(18, _, none), (187, _, some 14)] rfl rfl rfl rfl ⟨⟨rfl, by kernel_rfl⟩, ⟨rfl, rfl, rfl⟩, trivial⟩ (fun _ ext => TL.on rfl rfl rfl (by rw [hlead]; rfl) <| TL.fieldAddr hF rfl rfl TL.fin) ?_
          refine DH.read (i := 33) [(205, _, some 32), (187, _, some 14)] rfl rfl rfl rfl ⟨⟨rfl, rfl, rfl⟩, ⟨rfl, rfl, rfl⟩, trivial⟩ (fun ext => TL.on rfl rfl rfl (by rw [hlead]; rfl) <| TL.load hF rfl (by first | exact At.own' (i := 0) rfl rfl | exact At.own' (i := 1) rfl rfl | exact At.own' (i := 2) rfl rfl | exact At.own' (i := 3) rfl rfl | exact At.own' (i := 4) rfl rfl | exact At.own' (i := 5) rfl rfl | exact At.own' (i := 6) rfl rfl | exact At.own' (i := 7) rfl rfl | exact At.own' (i := 8) rfl rfl | exact At.own' (i := 9) rfl rfl | exact At.own' (i := 10) rfl rfl | exact At.own' (i := 11) rfl rfl | exact At.own' (i := 12) rfl rfl) rfl TL.fin) ?_
          refine DH.pure (i := 34) [(204, _, some 31), (206, _, some 33), (187, _, some 14)] rfl rfl rfl rfl ⟨⟨rfl, rfl, rfl⟩, ⟨rfl, rfl, rfl⟩, ⟨rfl, rfl, rfl⟩, trivial⟩ (fun _ ext => TL.on rfl rfl rfl (by rw [hlead]; rfl) <| TL.indexAddr hF rfl rfl (hp0.2.adi (i := i) (by simp; omega)) (by omega) (by simp; omega) rfl TL.fin) ?_
          refine DH.read (i := 35) [(207, _, some 34), (187, _, some 14)] rfl rfl rfl rfl ⟨⟨rfl, rfl, rfl⟩, ⟨rfl, rfl, rfl⟩, trivial⟩ (fun ext => TL.on rfl rfl rfl (by rw [hlead]; rfl) <| TL.load hF rfl (v := .int .i64 ((zAt L pick all p).2.2.W i)) (range_map_row (hp0.2.up (by simp)) hil) rfl TL.fin) ?_
          refine DH.pure (i := 36) [(198, _, some 25), (208, _, some 35), (187, _, some 14)] rfl rfl rfl rfl ⟨⟨rfl, rfl, rfl⟩, ⟨rfl, rfl, rfl⟩, ⟨rfl, rfl, rfl⟩, trivial⟩ (fun _ ext => TL.on rfl rfl rfl (by rw [hlead]; rfl) <| TL.bin hF rfl rfl rfl rfl TL.fin) ?_
          refine DH.done [(209, _), (208, _), (207, _), (206, _), (205, _), (204, _), (203, _), (202, _), (201, _), (200, _), (199, _), (198, _), (197, _), (196, _), (195, _), (194, _), (193, _), (192, _), (191, _), (190, _), (189, _), (188, _), (187, _), (186, _), (185, _), (184, _), (183, _), (180, _), (182, _), (181, _), (179, _), (178, _), (177, _), (176, _), (175, _), (174, _), (173, _)] [_, _] (by kernel_rfl) (by kernel_rfl) (by kernel_rfl) (by kernel_rfl) rfl rfl ?_
          refine TL.on rfl rfl rfl (by rw [hlead]; rfl) ?_
          refine TL.neqB hF rfl rfl rfl ?_
          refine TL.pickF hF rfl (by rw [hlead]; rfl) rfl rfl ?_
          refine TL.nil ?_
          refine TQ.then_n ?_
          refine T.cond_f rfl (by simp) ?_
          refine T.skip ?_
          refine TQ.block_n ?_
          refine TQ.then_n ?_
          refine T.region ?_
          refine TL.add hF rfl rfl (by omega) (by omega) rfl ?_
          refine TL.move hF rfl rfl ?_
          refine TL.nil ?_
          refine TQ.pop (TQ.pop ?_)
          exact TQ.round (k + 1) (by omega) (by omega) ⟨rfl, rfl, rfl, rfl, rfl, rfl, rfl, trivial⟩ rfl
    · refine T.exit ?_
      refine TQ.then_x ?_
      refine TQ.then_x ?_
      refine TQ.block_x ?_
      refine TQ.then_n ?_
      refine T.seq ?_
      refine T.region ?_
      refine TL.call hF (awake_fn hg) rfl rfl ?_
      rintro _ _ rfl
      refine TL.assign hF rfl rfl ?_
      refine TL.nil ?_
      refine TQ.then_n ?_
      refine T.ret ?_
      exact TQ.retsF [6] _ hb rfl rfl rfl (fun _ => rfl)
end Go.Proofs.YtefkmiomldhmjaaDoor
