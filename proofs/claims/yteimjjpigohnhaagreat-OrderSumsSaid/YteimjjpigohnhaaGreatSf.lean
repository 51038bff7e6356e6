/- Several texts in one. -/
import Derived.Test.YteimjjpigohnhaaGreatSe
import Derived.Test.YteimjjpigohnhaaGreatSb
import Derived.Test.YteimjjpigohnhaaGreatSd
import Derived.Test.YteimjjpigohnhaaGreatRows
import Derived.OpenShut
/- Who is reached: what holds of it. -/
namespace Go.Proofs.YteimjjpigohnhaaGreat
open Go.Sl
theorem rchL_ok {rec : Nat → Rs → Rs} {mate : Nat → Int} (hr : ∀ k s, (rec k s).ok = true → s.ok = true) : ∀ (l : List Nat) (s : Rs), (rchL rec mate l s).ok = true → s.ok = true
  | [], _, h => h
  | j :: r, s, h => by
    unfold rchL at h
    split at h
    · exact rchL_ok hr r s h
    · split at h
      · cases h
      · exact hr (mate j).toNat ⟨s.here, upd s.there j true, s.ok⟩ (rchL_ok hr r _ h)
theorem rch_ok {E : Nat → Nat → Bool} {n : Nat} {mate : Nat → Int} : ∀ (f i : Nat) (s : Rs), (rch E n mate f i s).ok = true → s.ok = true
  | 0, _, _, h => h
  | f + 1, i, s, h => by
    unfold rch at h
    split at h
    · exact h
    · exact rchL_ok (rec := rch E n mate f) (fun k s hk => rch_ok f k s hk) _ ⟨upd s.here i true, s.there, s.ok⟩ h
theorem rchL_here {rec : Nat → Rs → Rs} {mate : Nat → Int} (hr : ∀ k s j, s.here j = true → (rec k s).here j = true) : ∀ (l : List Nat) (s : Rs) (j : Nat), s.here j = true → (rchL rec mate l s).here j = true
  | [], _, _, h => h
  | k :: r, s, j, h => by
    unfold rchL
    split
    · exact rchL_here hr r s j h
    · split
      · exact h
      · exact rchL_here hr r _ j (hr _ _ j h)
theorem rch_here {E : Nat → Nat → Bool} {n : Nat} {mate : Nat → Int} : ∀ (f i : Nat) (s : Rs) (j : Nat), s.here j = true → (rch E n mate f i s).here j = true
  | 0, _, _, _, h => h
  | f + 1, i, s, j, h => by
    unfold rch
    split
    · exact h
    · refine rchL_here (fun k s j hk => rch_here f k s j hk) _ _ j ?_
      show upd s.here i true j = true
      unfold upd; split
      · rfl
      · exact h
/-- All that is reached from those that have none. -/
def rchN (E : Nat → Nat → Bool) (n : Nat) (m : Mt) : Nat → Rs
  | 0 => ⟨fun _ => false, fun _ => false, true⟩
  | k + 1 => if m.nx k < 0 then rch E n m.mate (n + 1) k (rchN E n m k) else rchN E n m k
theorem rchN_ok {E : Nat → Nat → Bool} {n : Nat} {m : Mt} {k : Nat} : ∀ d, (rchN E n m (k + d)).ok = true → (rchN E n m k).ok = true
  | 0, h => h
  | d + 1, h => by
    refine rchN_ok d ?_
    rw [show k + (d + 1) = (k + d) + 1 by omega] at h
    unfold rchN at h
    split at h
    · exact rch_ok _ _ _ h
    · exact h
def rchM (l : List Tm) : Rs := rchN (EP l) l.length (linkM l) l.length
def widK (l : List Tm) (k : Nat) : List Nat := (List.range k).filter fun i => (rchM l).here i && !(rchM l).there i
def widT (l : List Tm) : List Tm := (widK l l.length).map fun i => l.getD i []
def widestS (l : List Tm) : List Tm × Int := if timesE l = 0 then (widT (sortT l), 0) else ([], timesE l)
theorem widK_succ {l : List Tm} {k : Nat} : widK l (k + 1) = widK l k ++ if (rchM l).here k = true ∧ (rchM l).there k = false then [k] else [] := by
  unfold widK
  rw [List.range_succ, List.filter_append]
  congr 1
  simp only [List.filter_cons, List.filter_nil]
  cases (rchM l).here k <;> cases (rchM l).there k <;> simp
theorem widK_len (l : List Tm) (k : Nat) : (widK l k).length ≤ k := by unfold widK; exact Nat.le_trans (List.length_filter_le _ _) (by simp)
end Go.Proofs.YteimjjpigohnhaaGreat
/- Who is reached, by the program. -/
namespace Go.Proofs.YteimjjpigohnhaaGreat
open Go.Sl
variable {S : Nat → Prop} {w0 : World} {η : Heap}
/-- The blocks of a reach. -/
structure RC where
 a : Option Addr
 n : Nat
 c : Nat
 hb : Nat
 kb : Nat
 tb : Nat
 fb : Nat
 lk : Nat
 nb : Nat
 bb : Nat
 hr : Nat
 tr : Nat
def rkV (q : RC) : List Value := lkV ⟨q.a, q.n, q.c, 0, 0, 0, q.lk, q.nb, q.bb, 0⟩
def coreR (q : RC) (mt : Nat → Int) (s : Rs) (η : Heap) : Heap := [(q.hb, Obj.cells #[.slice (some ⟨q.hr, 0, none⟩) q.n q.n] 87 (0, 0))] :: [(q.kb, Obj.cells #[ptr q.lk] 83 (0, 0))] :: [(q.tb, Obj.cells #[.slice (some ⟨q.tr, 0, none⟩) q.n q.n] 87 (0, 0))] :: [(q.fb, Obj.cells #[.func (.func 90) #[] #[ptr q.hb, ptr q.kb, ptr q.tb, ptr q.fb]] 88 (0, 0))] :: [(q.lk, Obj.cells (rkV q).toArray 86 (0, 0))] :: iseg q.bb q.n mt :: bseg q.hr q.n s.here :: bseg q.tr q.n s.there :: η
set_option maxHeartbeats 4000000 in
theorem reach_fn {qs : List HL} {q : RC} {mt : Nat → Int} {w : Nat} (hx : LL S w0 [] q.a qs) (hqn : q.n = qs.length) (hl : qs.length < 2 ^ 63) (hw : ∀ p ∈ qs, p.2.1.length = w) (hw4 : w ≤ 4) (hmt : ∀ j, j < q.n → -1 ≤ mt j ∧ mt j < q.n) : ∀ (fu : Nat) {i : Nat} {s : Rs} {η : Heap}, i < q.n → unt q.n s.here < fu → (rch (EP (tx qs)) q.n mt fu i s).ok = true →
  Rt Tryz.prog 90 [.int .i64 (i : Int), ptr q.hb, ptr q.kb, ptr q.tb, ptr q.fb].toArray S w0 (coreR q mt s η) (fun _ η' => η' = coreR q mt (rch (EP (tx qs)) q.n mt fu i s) η) := by
 intro fu
 induction fu with
 | zero => intro i s η _ h; omega
 | succ fu ih =>
 intro i s η hi hun0 hso
 have hF := open_wide
 refine Rt.ofL (fn := Tryz.f90) Tryz.func90 rfl rfl ?_
 refine T.seq ?_
 refine T.seq ?_
 refine T.region ?_
 refine TL.load hF rfl (own_mem (cs := #[.slice (some ⟨q.hr, 0, none⟩) q.n q.n]) (e := 87) (fz := (0, 0)) (by simp [coreR]) rfl) rfl ?_
 refine TL.move hF rfl rfl ?_
 refine TL.indexAddr hF rfl rfl ⟨_, rfl, rfl⟩ (by omega) (by omega) rfl ?_
 refine TL.load hF rfl (bseg_at (f := s.here) (n := q.n) (b := q.hr) (j := i) (by simp [coreR]) (by omega)) rfl ?_
 refine TL.nil ?_
 refine TQ.then_n ?_
 refine T.cond _ rfl (fun ht10 => ?_) (fun ht10 => ?_)
 ·refine T.ret ?_
  refine TQ.then_r ?_
  refine TQ.retL0 [] [] rfl rfl rfl ?_
  have e : rch (EP (tx qs)) q.n mt (fu + 1) i s = s := by unfold rch; rw [if_pos ht10]
  rw [e]
 ·refine T.skip ?_
  refine TQ.then_n ?_
  refine T.seq ?_
  refine T.region ?_
  refine TL.load hF rfl (own_mem (cs := #[.slice (some ⟨q.hr, 0, none⟩) q.n q.n]) (e := 87) (fz := (0, 0)) (by simp [coreR]) rfl) rfl ?_
  refine TL.move hF rfl rfl ?_
  refine TL.indexAddr hF rfl rfl ⟨_, rfl, rfl⟩ (by omega) (by omega) rfl ?_
  refine TL.storeI hF 6 rfl rfl rfl rfl (by simp [rowC_len]; omega) ?_
  refine TL.nil ?_
  refine TQ.then_n ?_
  refine T.seq ?_
  refine T.region ?_
  refine TL.load hF rfl (own_mem (cs := #[ptr q.lk]) (e := 83) (fz := (0, 0)) (by simp [coreR]) rfl) rfl ?_
  refine TL.move hF rfl rfl ?_
  refine TL.call hF after_fn rfl rfl ?_
  rintro _ _ ⟨c2, c3, rfl, rfl⟩
  refine TL.nil ?_
  refine TQ.then_n ?_
  refine T.block ?_
  refine T.pick [2, 3, 4, 5, 6, 7, 8, 9, 0, 1] [_, _, _, _, _, _, _, _, _, _] rfl rfl rfl ?_
  refine T.heap (η' := [(q.hb, Obj.cells #[.slice (some ⟨q.hr, 0, none⟩) q.n q.n] 87 (0, 0))] :: [(q.kb, Obj.cells #[ptr q.lk] 83 (0, 0))] :: [(q.tb, Obj.cells #[.slice (some ⟨q.tr, 0, none⟩) q.n q.n] 87 (0, 0))] :: [(q.fb, Obj.cells #[.func (.func 90) #[] #[ptr q.hb, ptr q.kb, ptr q.tb, ptr q.fb]] 88 (0, 0))] :: [(q.lk, Obj.cells (rkV q).toArray 86 (0, 0))] :: iseg q.bb q.n mt :: bseg q.hr q.n (⟨upd s.here i true, s.there, s.ok⟩ : Rs).here :: bseg q.tr q.n (⟨upd s.here i true, s.there, s.ok⟩ : Rs).there :: [(c3, Obj.cells #[.int .i64 (i : Int)] 3 (0, 0))] :: [(c2, Obj.cells #[ptr q.lk] 83 (0, 0))] :: η) (congrArg (fun z : Seg => [(q.hb, Obj.cells #[.slice (some ⟨q.hr, 0, none⟩) q.n q.n] 87 (0, 0))] :: [(q.kb, Obj.cells #[ptr q.lk] 83 (0, 0))] :: [(q.tb, Obj.cells #[.slice (some ⟨q.tr, 0, none⟩) q.n q.n] 87 (0, 0))] :: [(q.fb, Obj.cells #[.func (.func 90) #[] #[ptr q.hb, ptr q.kb, ptr q.tb, ptr q.fb]] 88 (0, 0))] :: [(q.lk, Obj.cells (rkV q).toArray 86 (0, 0))] :: iseg q.bb q.n mt :: z :: bseg q.tr q.n s.there :: [(c3, Obj.cells #[.int .i64 (i : Int)] 3 (0, 0))] :: [(c2, Obj.cells #[ptr q.lk] 83 (0, 0))] :: η) (bseg_updU (b := q.hr) (n := q.n) (f := s.here) (v := true) (k := 0 + ((i : Nat) : Int).toNat * 1) (j := i) (by simp))) ?_
  have hhf : s.here i = false := by simpa using ht10
  have hun : unt q.n (⟨upd s.here i true, s.there, s.ok⟩ : Rs).here < unt q.n s.here := unt_upd hi hhf
  have hS : rch (EP (tx qs)) q.n mt (fu + 1) i s = rchL (rch (EP (tx qs)) q.n mt fu) mt (afterL (EP (tx qs)) q.n i) (⟨upd s.here i true, s.there, s.ok⟩ : Rs) := by
   conv => lhs; unfold rch
   rw [if_neg (by rw [hhf]; decide)]
  rw [hS] at hso ⊢
  refine T.rangeFunc (fst := []) (cap := [ptr c2, ptr c3]) rfl (after_iter (c := q.c) (b2 := c2) (b3 := c3) (lk := q.lk) (nb := q.nb) (bb := q.bb) (i := i) hx hl (hqn ▸ hi) hw hw4) (by
    intro e he; obtain ⟨y, _, rfl⟩ := List.mem_map.1 he; rfl) (by simp) (fun k η1 => ∃ s1 : Rs, η1 = [(q.hb, Obj.cells #[.slice (some ⟨q.hr, 0, none⟩) q.n q.n] 87 (0, 0))] :: [(q.kb, Obj.cells #[ptr q.lk] 83 (0, 0))] :: [(q.tb, Obj.cells #[.slice (some ⟨q.tr, 0, none⟩) q.n q.n] 87 (0, 0))] :: [(q.fb, Obj.cells #[.func (.func 90) #[] #[ptr q.hb, ptr q.kb, ptr q.tb, ptr q.fb]] 88 (0, 0))] :: [(q.lk, Obj.cells (rkV q).toArray 86 (0, 0))] :: iseg q.bb q.n mt :: bseg q.hr q.n s1.here :: bseg q.tr q.n s1.there :: [(c3, Obj.cells #[.int .i64 (i : Int)] 3 (0, 0))] :: [(c2, Obj.cells #[ptr q.lk] 83 (0, 0))] :: η ∧ (∀ j, j < q.n → (⟨upd s.here i true, s.there, s.ok⟩ : Rs).here j = true → s1.here j = true) ∧ rchL (rch (EP (tx qs)) q.n mt fu) mt (afterL (EP (tx qs)) q.n i) (⟨upd s.here i true, s.there, s.ok⟩ : Rs) = rchL (rch (EP (tx qs)) q.n mt fu) mt ((afterL (EP (tx qs)) q.n i).drop k) s1) (fun _ _ => False) ⟨(⟨upd s.here i true, s.there, s.ok⟩ : Rs), rfl, fun _ _ h => h, rfl⟩ ?_ ?_ ?_ ?_
  ·rintro k _ tl ⟨s1, rfl, _⟩
   rw [← hqn]
   exact ⟨by simp, by simp, by simp [rkV, lkV]⟩
  ·rintro yl tl tl' k e _ hie ⟨s1, rfl, hkp, hag⟩
   have hF := open_round yl
   rw [← hqn] at hie
   have hil : k < (afterL (EP (tx qs)) q.n i).length := by have := (List.getElem?_eq_some_iff.1 hie).1; rw [List.length_map] at this; exact this
   have hee : e = [.int .i64 (((afterL (EP (tx qs)) q.n i)[k] : Nat) : Int)] := by
    have := (List.getElem?_eq_some_iff.1 hie).2; rw [← this, List.getElem_map]
   subst hee
   have hjm := mem_afterL.1 (List.getElem_mem hil)
   rw [List.drop_eq_getElem_cons hil] at hag
   generalize (afterL (EP (tx qs)) q.n i)[k] = j at hjm hag ⊢
   obtain ⟨hjn, _⟩ := hjm
   refine T.region ?_
   refine TL.assign hF rfl rfl ?_
   refine TL.nil ?_
   refine TQ.swapT _ rfl ?_
   refine T.block ?_
   refine T.seq ?_
   refine T.region ?_
   refine TL.load hF rfl (own_mem (cs := #[.slice (some ⟨q.tr, 0, none⟩) q.n q.n]) (e := 87) (fz := (0, 0)) (by simp) rfl) rfl ?_
   refine TL.move hF rfl rfl ?_
   refine TL.indexAddr hF rfl rfl ⟨_, rfl, rfl⟩ (by omega) (by omega) rfl ?_
   refine TL.load hF rfl (bseg_at (f := s1.there) (n := q.n) (b := q.tr) (j := j) (by simp) hjn) rfl ?_
   refine TL.not hF rfl rfl ?_
   refine TL.nil ?_
   refine TQ.then_n ?_
   refine T.cond _ rfl (fun ht22 => ?_) (fun ht22 => ?_)
   ·refine T.seq ?_
    refine T.region ?_
    refine TL.load hF rfl (own_mem (cs := #[.slice (some ⟨q.tr, 0, none⟩) q.n q.n]) (e := 87) (fz := (0, 0)) (by simp) rfl) rfl ?_
    refine TL.move hF rfl rfl ?_
    refine TL.indexAddr hF rfl rfl ⟨_, rfl, rfl⟩ (by omega) (by omega) rfl ?_
    refine TL.storeI hF 7 rfl rfl rfl rfl (by simp [rowC_len]; omega) ?_
    refine TL.nil ?_
    refine TQ.then_n ?_
    refine T.heap (η' := [(q.hb, Obj.cells #[.slice (some ⟨q.hr, 0, none⟩) q.n q.n] 87 (0, 0))] :: [(q.kb, Obj.cells #[ptr q.lk] 83 (0, 0))] :: [(q.tb, Obj.cells #[.slice (some ⟨q.tr, 0, none⟩) q.n q.n] 87 (0, 0))] :: [(q.fb, Obj.cells #[.func (.func 90) #[] #[ptr q.hb, ptr q.kb, ptr q.tb, ptr q.fb]] 88 (0, 0))] :: [(q.lk, Obj.cells (rkV q).toArray 86 (0, 0))] :: iseg q.bb q.n mt :: bseg q.hr q.n (⟨s1.here, upd s1.there j true, s1.ok⟩ : Rs).here :: bseg q.tr q.n (⟨s1.here, upd s1.there j true, s1.ok⟩ : Rs).there :: [(c3, Obj.cells #[.int .i64 (i : Int)] 3 (0, 0))] :: [(c2, Obj.cells #[ptr q.lk] 83 (0, 0))] :: η ++ tl') (congrArg (fun z : Seg => [(q.hb, Obj.cells #[.slice (some ⟨q.hr, 0, none⟩) q.n q.n] 87 (0, 0))] :: [(q.kb, Obj.cells #[ptr q.lk] 83 (0, 0))] :: [(q.tb, Obj.cells #[.slice (some ⟨q.tr, 0, none⟩) q.n q.n] 87 (0, 0))] :: [(q.fb, Obj.cells #[.func (.func 90) #[] #[ptr q.hb, ptr q.kb, ptr q.tb, ptr q.fb]] 88 (0, 0))] :: [(q.lk, Obj.cells (rkV q).toArray 86 (0, 0))] :: iseg q.bb q.n mt :: bseg q.hr q.n s1.here :: z :: ([(c3, Obj.cells #[.int .i64 (i : Int)] 3 (0, 0))] :: [(c2, Obj.cells #[ptr q.lk] 83 (0, 0))] :: η ++ tl')) (bseg_updU (b := q.tr) (n := q.n) (f := s1.there) (v := true) (k := 0 + ((j : Nat) : Int).toNat * 1) (j := j) (by simp))) ?_
    have htf : s1.there j = false := by simpa using ht22
    have hmj := hmt j hjn
    have hun2 : unt q.n s1.here ≤ unt q.n (⟨upd s.here i true, s.there, s.ok⟩ : Rs).here := unt_mono hkp
    have hok2 := hso
    rw [hag] at hok2
    simp only [rchL] at hok2
    rw [if_neg (by rw [htf]; decide)] at hok2
    have hmn : ¬ mt j < 0 := fun h => by rw [if_pos h] at hok2; cases hok2
    rw [if_neg hmn] at hok2
    have hok3 := rchL_ok (rec := (rch (EP (tx qs)) q.n mt fu)) (fun k s hk => rch_ok fu k s hk) _ _ hok2
    refine T.draw ?_
    refine DR.stepV [_] rfl [(4, _, none)] rfl rfl ⟨⟨rfl, by kernel_rfl⟩, trivial⟩ (fun ext => TL.load hF rfl (own_mem (cs := #[.func (.func 90) #[] #[ptr q.hb, ptr q.kb, ptr q.tb, ptr q.fb]]) (e := 88) (fz := (0, 0)) (by simp) rfl) rfl TL.fin) ?_
    refine DR.stepV [_, _] rfl [(2, _, none)] rfl rfl ⟨⟨rfl, by kernel_rfl⟩, trivial⟩ (fun ext => TL.load hF rfl (own_mem (cs := #[ptr q.lk]) (e := 83) (fz := (0, 0)) (by simp) rfl) rfl TL.fin) ?_
    refine DR.stepV [_, _, _] rfl [(27, _, some 1)] rfl rfl ⟨⟨rfl, rfl, rfl⟩, trivial⟩ (fun ext => TL.nilCheck hF rfl rfl TL.fin) ?_
    refine DR.stepV [_, _, _, _] rfl [(28, _, some 2)] rfl rfl ⟨⟨rfl, rfl, rfl⟩, trivial⟩ (fun ext => TL.fieldAddr hF rfl rfl TL.fin) ?_
    refine DR.stepV [_, _, _, _, _] rfl [(29, _, some 3)] rfl rfl ⟨⟨rfl, rfl, rfl⟩, trivial⟩ (fun ext => TL.load hF rfl (own_mem (cs := (rkV q).toArray) (e := 86) (fz := (0, 0)) (by simp) rfl) rfl TL.fin) ?_
    refine DR.stepV [_, _, _, _, _, _] rfl [(6, _, none)] rfl rfl ⟨⟨rfl, by kernel_rfl⟩, trivial⟩ (fun ext => TL.move hF rfl rfl TL.fin) ?_
    refine DR.stepV [_, _, _, _, _, _, _] rfl [(30, _, some 4), (31, _, some 5)] rfl rfl ⟨⟨rfl, rfl, rfl⟩, ⟨rfl, rfl, rfl⟩, trivial⟩ (fun ext => TL.indexAddr hF rfl rfl ⟨_, rfl, rfl⟩ (by omega) (by show (j : Int) < (q.n : Int); omega) rfl TL.fin) ?_
    refine DR.stepV [_, _, _, _, _, _, _, _] rfl [(32, _, some 6)] rfl rfl ⟨⟨rfl, rfl, rfl⟩, trivial⟩ (fun ext => TL.load hF rfl (iseg_at (f := mt) (n := q.n) (b := q.bb) (j := j) (by simp) hjn) rfl TL.fin) ?_
    refine DR.done [(33, _), (32, _), (31, _), (30, _), (29, _), (28, _), (27, _), (26, _)] [_] mixed (by kernel_rfl) (by kernel_rfl) (by kernel_rfl) rfl rfl ?_
    have hrec := ih (η := ([(c3, Obj.cells #[.int .i64 (i : Int)] 3 (0, 0))] :: [(c2, Obj.cells #[ptr q.lk] 83 (0, 0))] :: (η ++ tl'))) (i := (mt j).toNat) (s := (⟨s1.here, upd s1.there j true, s1.ok⟩ : Rs)) (by omega) (by show unt q.n s1.here < _; omega) hok3
    rw [Int.toNat_of_nonneg (show 0 ≤ mt j by omega)] at hrec
    refine TL.call hF hrec rfl rfl ?_
    rintro _ _ rfl
    refine TL.nil ?_
    refine TQ.block_n ?_
    refine TQ.rq_n ([(q.hb, Obj.cells #[.slice (some ⟨q.hr, 0, none⟩) q.n q.n] 87 (0, 0))] :: [(q.kb, Obj.cells #[ptr q.lk] 83 (0, 0))] :: [(q.tb, Obj.cells #[.slice (some ⟨q.tr, 0, none⟩) q.n q.n] 87 (0, 0))] :: [(q.fb, Obj.cells #[.func (.func 90) #[] #[ptr q.hb, ptr q.kb, ptr q.tb, ptr q.fb]] 88 (0, 0))] :: [(q.lk, Obj.cells (rkV q).toArray 86 (0, 0))] :: iseg q.bb q.n mt :: bseg q.hr q.n ((rch (EP (tx qs)) q.n mt fu) (mt j).toNat (⟨s1.here, upd s1.there j true, s1.ok⟩ : Rs)).here :: bseg q.tr q.n ((rch (EP (tx qs)) q.n mt fu) (mt j).toNat (⟨s1.here, upd s1.there j true, s1.ok⟩ : Rs)).there :: [(c3, Obj.cells #[.int .i64 (i : Int)] 3 (0, 0))] :: [(c2, Obj.cells #[ptr q.lk] 83 (0, 0))] :: η) rfl ⟨_, rfl, fun k hk h0 => rch_here fu _ _ k (hkp k hk h0), ?_⟩
    rw [hag]
    simp only [rchL]
    rw [if_neg (by rw [htf]; decide), if_neg hmn]
   ·refine T.skip ?_
    refine TQ.block_n ?_
    refine TQ.rq_n ([(q.hb, Obj.cells #[.slice (some ⟨q.hr, 0, none⟩) q.n q.n] 87 (0, 0))] :: [(q.kb, Obj.cells #[ptr q.lk] 83 (0, 0))] :: [(q.tb, Obj.cells #[.slice (some ⟨q.tr, 0, none⟩) q.n q.n] 87 (0, 0))] :: [(q.fb, Obj.cells #[.func (.func 90) #[] #[ptr q.hb, ptr q.kb, ptr q.tb, ptr q.fb]] 88 (0, 0))] :: [(q.lk, Obj.cells (rkV q).toArray 86 (0, 0))] :: iseg q.bb q.n mt :: bseg q.hr q.n s1.here :: bseg q.tr q.n s1.there :: [(c3, Obj.cells #[.int .i64 (i : Int)] 3 (0, 0))] :: [(c2, Obj.cells #[ptr q.lk] 83 (0, 0))] :: η) rfl ⟨s1, rfl, hkp, ?_⟩
    rw [hag]
    simp only [rchL]
    rw [if_pos (by simpa using ht22)]
  ·rintro mk _ ⟨s1, rfl, hkp, hag⟩
   rw [List.length_map, ← hqn, List.drop_length] at hag
   refine TQ.block_n ?_
   refine TQ.normL ?_
   refine TQ.mark (i := 0) (.inl rfl) rfl ?_
   refine TQ.pick [1, 2, 3, 4, 5, 6, 7, 8] [_, _, _, _, _, _, _, _, _, _, _] rfl rfl rfl ?_
   refine TQ.retL0 [] [] rfl rfl rfl ?_
   rw [hag]; rfl
  ·rintro _ _ _ h; exact h.elim
end Go.Proofs.YteimjjpigohnhaaGreat
/- The widest times, by the program. -/
namespace Go.Proofs.YteimjjpigohnhaaGreat
open Go.Sl
variable {S : Nat → Prop} {w0 : World} {η : Heap}
def widH (qs : List HL) (k : Nat) : List HL := (widK (tx qs) k).map (fun i => qs.getD i default)
theorem widH_len (qs : List HL) (k : Nat) : (widH qs k).length ≤ k := by unfold widH; rw [List.length_map]; exact widK_len _ _
theorem tx_widH (qs : List HL) (k : Nat) : tx (widH qs k) = (widK (tx qs) k).map fun i => (tx qs).getD i [] := by
 unfold widH
 conv => lhs; unfold tx
 rw [List.map_map]
 exact List.map_congr_left fun j _ => tx_getDD qs j
set_option maxHeartbeats 2000000 in
theorem Widest_prog {a : Option Addr} {ps : List HL} {c : Nat} (hx : LL S w0 [] a ps) (hl : ps.length < 2 ^ 63) (hlx : ∀ p ∈ ps, p.2.1.length < 2 ^ 63) (hsafe : timesE (tx ps) = 0 → (rchM (sortT (tx ps))).ok = true) :
  Rt Tryz.prog 30 [.slice a ps.length c].toArray S w0 η (ResL S w0 (widestS (tx ps)) η) := by
 have hF := open_wide
 refine Rt.ofL (fn := Tryz.f30) Tryz.func30 rfl rfl ?_
 refine T.seq ?_
 refine T.region ?_
 refine TL.assign hF rfl rfl ?_
 refine TL.alloc hF rfl (fun b3 => ?_)
 refine TL.nil ?_
 refine TQ.then_n ?_
 refine T.seq ?_
 refine T.region ?_
 refine TL.makeFunc hF rfl rfl rfl ?_
 refine TL.defer hF rfl rfl ?_
 refine TL.nil ?_
 refine TQ.then_n ?_
 refine T.seq ?_
 refine T.region ?_
 refine TL.move hF rfl rfl ?_
 refine TL.buildSlice hF rfl (cs := #[gc (a, ps, c)]) (e := 32) (fun w => by kernel_rfl) rfl (fun b15 => ?_)
 refine TL.callE hF (listed_fn (gs := [(a, ps, c)]) (more := []) (b := none) (d := 0) (L3.one hx.ro (row_own (cs := [gc (a, ps, c)]) (e := 32) (by simp))) LL.none (by simp) (by simp) (by rw [catG_one]; exact hlx) (by simp) (fun g hg => by rw [List.mem_singleton.1 hg]; exact hl)) rfl rfl ?_ ?_
 ·rintro _ _ ⟨hB, rfl⟩
  rw [listE_times] at hB
  have hB : timesE (tx ps) = 0 := hB
  obtain ⟨hl2, hfit⟩ := times_ok hB
  rw [tx_len] at hl2
  obtain ⟨w, hw4, hwid⟩ := fit_wid hfit
  have hx1 := hx
  refine TL.nil ?_
  refine TQ.then_n ?_
  refine T.seq ?_
  refine T.region ?_
  refine TL.move hF rfl rfl ?_
  refine TL.buildSlice hF rfl (cs := #[gc (a, ps, c)]) (e := 32) (fun w => by kernel_rfl) rfl (fun b18 => ?_)
  refine TL.call hF (of_fn (gs := [(a, ps, c)]) (L3.one hx1.ro (row_own (cs := [gc (a, ps, c)]) (e := 32) (by simp))) (by simp) (fun g hg => by rw [List.mem_singleton.1 hg]; show ps.length < _; omega) (by rw [catG_one]; show ps.length < _; omega) (w := w) (by rw [catG_one]; exact wid_tx hwid) hw4) rfl rfl ?_
  rintro _ _ ⟨a2, c2, qs, segs, rfl, htq, rfl, hll, _⟩
  rw [catG_one] at htq
  refine TL.freeze segs rfl (fun S1 w1 hz1 => ?_)
  have hq1 := hll.frz hz1
  have hwq : ∀ p ∈ qs, p.2.1.length = w := fun p hp => hwid _ (mem_sortT.1 (htq ▸ List.mem_map_of_mem hp))
  have hql : qs.length ≤ ps.length := by have := sortT_len (tx ps); rw [← htq, tx_len, tx_len] at this; exact this
  have hwq2 : ∀ x ∈ tx qs, x.length = w := fun x hx2 => by obtain ⟨p, hp, rfl⟩ := List.mem_map.1 hx2; exact hwq p hp
  have hok : MtOk qs.length (linkM (tx qs)) := by have h1 := runM_ok (E := EP (tx qs)) (n := (tx qs).length) (Nat.le_refl _); rw [tx_len] at h1; unfold linkM; rw [tx_len]; exact h1
  have hmk : (linkM (tx qs)) = runM (EP (tx qs)) qs.length qs.length := by unfold linkM; rw [tx_len]
  have hsf : (rchN (EP (tx qs)) qs.length (linkM (tx qs)) qs.length).ok = true := by have h1 := hsafe hB; rw [← htq] at h1; unfold rchM at h1; rw [tx_len] at h1; exact h1
  have hRM : rchM (tx qs) = (rchN (EP (tx qs)) qs.length (linkM (tx qs)) qs.length) := by unfold rchM; rw [tx_len]
  refine TL.call hF (linked_fn (c := c2) hq1 (by omega) hwq hw4) rfl rfl ?_
  rintro _ _ ⟨lk, nb, bb, rfl, rfl⟩
  rw [← hmk]
  refine TL.alloc hF rfl (fun b4 => ?_)
  refine TL.storeI hF 0 rfl rfl rfl rfl (by decide) ?_
  refine TL.nil ?_
  refine TQ.then_n ?_
  refine T.heap (η' := [(b4, Obj.cells #[ptr lk] 83 (0, 0))] :: [(lk, Obj.cells (rkV ⟨a2, qs.length, c2, 0, 0, 0, 0, lk, nb, bb, 0, 0⟩).toArray 86 (0, 0))] :: iseg nb qs.length (linkM (tx qs)).nx :: iseg bb qs.length (linkM (tx qs)).mate :: [(b18, Obj.cells #[gc (a, ps, c)] 32 (0, 0))] :: [(b15, Obj.cells #[gc (a, ps, c)] 32 (0, 0))] :: [(b3, Obj.cells #[.int .i64 0] ERR (0, 0))] :: η) rfl ?_
  refine T.cut (ι := Nat × Nat × Nat × Nat × Nat) (fun _ => True) (fun i => match i with | (h4, h5, h6, r5, r6) => [(2, .slice none 0 0), (3, ptr b3), (4, ptr h4), (5, ptr h5), (6, ptr h6)]) (fun i => match i with | (h4, h5, h6, r5, r6) => [(h5, Obj.cells #[.slice (some ⟨r5, 0, none⟩) qs.length qs.length] 87 (0, 0))] :: [(h4, Obj.cells #[ptr lk] 83 (0, 0))] :: [(h6, Obj.cells #[.slice (some ⟨r6, 0, none⟩) qs.length qs.length] 87 (0, 0))] :: bseg r5 qs.length (fun _ => false) :: bseg r6 qs.length (fun _ => false) :: [(lk, Obj.cells (rkV ⟨a2, qs.length, c2, 0, 0, 0, 0, lk, nb, bb, 0, 0⟩).toArray 86 (0, 0))] :: iseg nb qs.length (linkM (tx qs)).nx :: iseg bb qs.length (linkM (tx qs)).mate :: [(b18, Obj.cells #[gc (a, ps, c)] 32 (0, 0))] :: [(b15, Obj.cells #[gc (a, ps, c)] 32 (0, 0))] :: [(b3, Obj.cells #[.int .i64 0] ERR (0, 0))] :: η) ?_ ?_
  ·refine T.drawH 17 mixed ?_
   refine DH.read (i := 0) [(4, _, none)] rfl rfl rfl rfl ⟨⟨rfl, by kernel_rfl⟩, trivial⟩ (fun ext => TL.load hF rfl (own_mem (cs := #[ptr lk]) (e := 83) (fz := (0, 0)) (by simp) rfl) rfl TL.fin) ?_
   refine DH.pure (i := 1) [(21, _, some 0)] rfl rfl rfl rfl ⟨⟨rfl, rfl, rfl⟩, trivial⟩ (fun _ ext => TL.nilCheck hF rfl rfl TL.fin) ?_
   refine DH.pure (i := 2) [(22, _, some 1)] rfl rfl rfl rfl ⟨⟨rfl, rfl, rfl⟩, trivial⟩ (fun _ ext => TL.fieldAddr hF rfl rfl TL.fin) ?_
   refine DH.pure (i := 3) [(23, _, some 2)] rfl rfl rfl rfl ⟨⟨rfl, rfl, rfl⟩, trivial⟩ (fun _ ext => TL.fieldAddr hF rfl rfl TL.fin) ?_
   refine DH.read (i := 4) [(24, _, some 3)] rfl rfl rfl rfl ⟨⟨rfl, rfl, rfl⟩, trivial⟩ (fun ext => TL.load hF rfl (own_mem (cs := (rkV ⟨a2, qs.length, c2, 0, 0, 0, 0, lk, nb, bb, 0, 0⟩).toArray) (e := 86) (fz := (0, 0)) (by simp) rfl) rfl TL.fin) ?_
   refine DH.pure (i := 5) [(25, _, some 4)] rfl rfl rfl rfl ⟨⟨rfl, rfl, rfl⟩, trivial⟩ (fun _ ext => TL.len hF rfl rfl TL.fin) ?_
   refine DH.read (i := 7) [(4, _, none)] rfl rfl rfl rfl ⟨⟨rfl, by kernel_rfl⟩, trivial⟩ (fun ext => TL.load hF rfl (own_mem (cs := #[ptr lk]) (e := 83) (fz := (0, 0)) (by simp) rfl) rfl TL.fin) ?_
   refine DH.pure (i := 8) [(28, _, some 7)] rfl rfl rfl rfl ⟨⟨rfl, rfl, rfl⟩, trivial⟩ (fun _ ext => TL.nilCheck hF rfl rfl TL.fin) ?_
   refine DH.pure (i := 9) [(29, _, some 8)] rfl rfl rfl rfl ⟨⟨rfl, rfl, rfl⟩, trivial⟩ (fun _ ext => TL.fieldAddr hF rfl rfl TL.fin) ?_
   refine DH.pure (i := 10) [(30, _, some 9)] rfl rfl rfl rfl ⟨⟨rfl, rfl, rfl⟩, trivial⟩ (fun _ ext => TL.fieldAddr hF rfl rfl TL.fin) ?_
   refine DH.read (i := 11) [(31, _, some 10)] rfl rfl rfl rfl ⟨⟨rfl, rfl, rfl⟩, trivial⟩ (fun ext => TL.load hF rfl (own_mem (cs := (rkV ⟨a2, qs.length, c2, 0, 0, 0, 0, lk, nb, bb, 0, 0⟩).toArray) (e := 86) (fz := (0, 0)) (by simp) rfl) rfl TL.fin) ?_
   refine DH.pure (i := 12) [(32, _, some 11)] rfl rfl rfl rfl ⟨⟨rfl, rfl, rfl⟩, trivial⟩ (fun _ ext => TL.len hF rfl rfl TL.fin) ?_
   refine DH.k4 (by kernel_rfl) (by kernel_rfl) (by kernel_rfl) (by kernel_rfl) (HBK.mk (h := 6) [7, 11] [(26, _, some 5)] rfl rfl rfl ⟨⟨rfl, rfl, rfl⟩, trivial⟩ (by kernel_rfl) (fun ext => ?_)) (HBK.mk (h := 13) [0, 4] [(33, _, some 12)] rfl rfl rfl ⟨⟨rfl, rfl, rfl⟩, trivial⟩ (by kernel_rfl) (fun ext => ?_)) (HBK.mk (h := 14) [0, 4, 7, 11] [] rfl rfl rfl trivial (by kernel_rfl) (fun ext => ?_)) (HBK.mk (h := 15) [0, 4, 7, 11] [] rfl rfl rfl trivial (by kernel_rfl) (fun ext => ?_))
   ·refine TL.makeSlice hF (k := qs.length) rfl rfl rfl (by omega) (by omega) rfl (fun b27 => ?_)
    rw [rowC_false]
    refine TL.finK ⟨⟨_, rfl, _, _, [(4, _, none)], rfl, rfl, ⟨⟨rfl, by kernel_rfl⟩, trivial⟩, fun ext => TL.load hF rfl (own_mem (cs := #[ptr lk]) (e := 83) (fz := (0, 0)) (by simp) rfl) rfl TL.fin⟩, ⟨_, rfl, _, _, [(31, _, some 10)], rfl, rfl, ⟨⟨rfl, rfl, rfl⟩, trivial⟩, fun ext => TL.load hF rfl (own_mem (cs := (rkV ⟨a2, qs.length, c2, 0, 0, 0, 0, lk, nb, bb, 0, 0⟩).toArray) (e := 86) (fz := (0, 0)) (by simp) rfl) rfl TL.fin⟩, trivial⟩ ?_
    refine DH.k3 (by kernel_rfl) (by kernel_rfl) (by kernel_rfl) (by kernel_rfl) (HBK.mk (h := 13) [] [(33, _, some 12)] rfl rfl rfl ⟨⟨rfl, rfl, rfl⟩, trivial⟩ (by kernel_rfl) (fun ext => ?_)) (HBK.mk (h := 14) [7, 11] [] rfl rfl rfl trivial (by kernel_rfl) (fun ext => ?_)) (HBK.mk (h := 15) [7, 11] [] rfl rfl rfl trivial (by kernel_rfl) (fun ext => ?_))
    ·refine TL.makeSlice hF (k := qs.length) rfl rfl rfl (by omega) (by omega) rfl (fun b34 => ?_)
     rw [rowC_false]
     refine TL.finK trivial ?_
     refine DH.heavy2 (h1 := 14) (h2 := 15) (by kernel_rfl) (by kernel_rfl) (by kernel_rfl) (by kernel_rfl) ⟨_, _, [], rfl, rfl, rfl, rfl, trivial, by kernel_rfl, fun ext => ?_⟩ ⟨_, _, [], rfl, rfl, rfl, rfl, trivial, by kernel_rfl, fun ext => ?_⟩
     ·refine TL.alloc hF rfl (fun b5 => ?_)
      refine TL.finD ?_
      refine DH.heavy 15 [] (by kernel_rfl) (by kernel_rfl) (by kernel_rfl) (by kernel_rfl) rfl rfl rfl rfl trivial (by kernel_rfl) (fun ext => ?_)
      refine TL.alloc hF rfl (fun b6 => ?_)
      refine TL.finD ?_
      refine DH.k1 (by kernel_rfl) (by kernel_rfl) (by kernel_rfl) (by kernel_rfl) (HBK.mk (h := 16) [] [(5, _, some 14), (27, _, some 6)] rfl rfl rfl ⟨⟨rfl, rfl, rfl⟩, ⟨rfl, rfl, rfl⟩, trivial⟩ (by kernel_rfl) (fun ext => ?_))
      refine TL.storeI hF 1 rfl rfl rfl rfl (by decide) ?_
      refine TL.finKN trivial ?_
      refine DH.done [(6, _), (5, _), (34, _), (27, _), (33, _), (32, _), (31, _), (30, _), (29, _), (28, _), (26, _), (25, _), (24, _), (23, _), (22, _), (21, _)] [_] (by kernel_rfl) (by kernel_rfl) (by kernel_rfl) (by kernel_rfl) rfl rfl ?_
      refine TL.storeI hF 0 rfl rfl rfl rfl (by decide) ?_
      refine TL.nil ?_
      refine TQ.pick [1, 4, 0, 3, 2] [_, _, _, _, _] rfl rfl rfl ?_
      exact TQ.cut (b4, b5, b6, b27, b34) trivial ⟨rfl, rfl, rfl, rfl, rfl, trivial⟩ rfl
     ·refine TL.alloc hF rfl (fun b6 => ?_)
      refine TL.finD ?_
      refine DH.heavy 14 [] (by kernel_rfl) (by kernel_rfl) (by kernel_rfl) (by kernel_rfl) rfl rfl rfl rfl trivial (by kernel_rfl) (fun ext => ?_)
      refine TL.alloc hF rfl (fun b5 => ?_)
      refine TL.finD ?_
      refine DH.k1 (by kernel_rfl) (by kernel_rfl) (by kernel_rfl) (by kernel_rfl) (HBK.mk (h := 16) [] [(5, _, some 14), (27, _, some 6)] rfl rfl rfl ⟨⟨rfl, rfl, rfl⟩, ⟨rfl, rfl, rfl⟩, trivial⟩ (by kernel_rfl) (fun ext => ?_))
      refine TL.storeI hF 0 rfl rfl rfl rfl (by decide) ?_
      refine TL.finKN trivial ?_
      refine DH.done [(5, _), (6, _), (34, _), (27, _), (33, _), (32, _), (31, _), (30, _), (29, _), (28, _), (26, _), (25, _), (24, _), (23, _), (22, _), (21, _)] [_] (by kernel_rfl) (by kernel_rfl) (by kernel_rfl) (by kernel_rfl) rfl rfl ?_
      refine TL.storeI hF 1 rfl rfl rfl rfl (by decide) ?_
      refine TL.nil ?_
      refine TQ.pick [0, 4, 1, 3, 2] [_, _, _, _, _] rfl rfl rfl ?_
      exact TQ.cut (b4, b5, b6, b27, b34) trivial ⟨rfl, rfl, rfl, rfl, rfl, trivial⟩ rfl
    ·refine TL.alloc hF rfl (fun b5 => ?_)
     refine TL.finK ⟨⟨_, rfl, _, _, [(4, _, none)], rfl, rfl, ⟨⟨rfl, by kernel_rfl⟩, trivial⟩, fun ext => TL.load hF rfl (own_mem (cs := #[ptr lk]) (e := 83) (fz := (0, 0)) (by simp) rfl) rfl TL.fin⟩, ⟨_, rfl, _, _, [(31, _, some 10)], rfl, rfl, ⟨⟨rfl, rfl, rfl⟩, trivial⟩, fun ext => TL.load hF rfl (own_mem (cs := (rkV ⟨a2, qs.length, c2, 0, 0, 0, 0, lk, nb, bb, 0, 0⟩).toArray) (e := 86) (fz := (0, 0)) (by simp) rfl) rfl TL.fin⟩, trivial⟩ ?_
     refine DH.k2 (by kernel_rfl) (by kernel_rfl) (by kernel_rfl) (by kernel_rfl) (HBK.mk (h := 13) [] [(33, _, some 12)] rfl rfl rfl ⟨⟨rfl, rfl, rfl⟩, trivial⟩ (by kernel_rfl) (fun ext => ?_)) (HBK.mk (h := 15) [7, 11] [] rfl rfl rfl trivial (by kernel_rfl) (fun ext => ?_))
     ·refine TL.makeSlice hF (k := qs.length) rfl rfl rfl (by omega) (by omega) rfl (fun b34 => ?_)
      rw [rowC_false]
      refine TL.finK trivial ?_
      refine DH.heavy 15 [] (by kernel_rfl) (by kernel_rfl) (by kernel_rfl) (by kernel_rfl) rfl rfl rfl rfl trivial (by kernel_rfl) (fun ext => ?_)
      refine TL.alloc hF rfl (fun b6 => ?_)
      refine TL.finD ?_
      refine DH.k1 (by kernel_rfl) (by kernel_rfl) (by kernel_rfl) (by kernel_rfl) (HBK.mk (h := 16) [] [(5, _, some 14), (27, _, some 6)] rfl rfl rfl ⟨⟨rfl, rfl, rfl⟩, ⟨rfl, rfl, rfl⟩, trivial⟩ (by kernel_rfl) (fun ext => ?_))
      refine TL.storeI hF 2 rfl rfl rfl rfl (by decide) ?_
      refine TL.finKN trivial ?_
      refine DH.done [(6, _), (34, _), (5, _), (27, _), (33, _), (32, _), (31, _), (30, _), (29, _), (28, _), (26, _), (25, _), (24, _), (23, _), (22, _), (21, _)] [_] (by kernel_rfl) (by kernel_rfl) (by kernel_rfl) (by kernel_rfl) rfl rfl ?_
      refine TL.storeI hF 0 rfl rfl rfl rfl (by decide) ?_
      refine TL.nil ?_
      refine TQ.pick [2, 4, 0, 3, 1] [_, _, _, _, _] rfl rfl rfl ?_
      exact TQ.cut (b4, b5, b6, b27, b34) trivial ⟨rfl, rfl, rfl, rfl, rfl, trivial⟩ rfl
     ·refine TL.alloc hF rfl (fun b6 => ?_)
      refine TL.finK ⟨⟨_, rfl, _, _, [(4, _, none)], rfl, rfl, ⟨⟨rfl, by kernel_rfl⟩, trivial⟩, fun ext => TL.load hF rfl (own_mem (cs := #[ptr lk]) (e := 83) (fz := (0, 0)) (by simp) rfl) rfl TL.fin⟩, ⟨_, rfl, _, _, [(31, _, some 10)], rfl, rfl, ⟨⟨rfl, rfl, rfl⟩, trivial⟩, fun ext => TL.load hF rfl (own_mem (cs := (rkV ⟨a2, qs.length, c2, 0, 0, 0, 0, lk, nb, bb, 0, 0⟩).toArray) (e := 86) (fz := (0, 0)) (by simp) rfl) rfl TL.fin⟩, trivial⟩ ?_
      refine DH.k2 (by kernel_rfl) (by kernel_rfl) (by kernel_rfl) (by kernel_rfl) (HBK.mk (h := 13) [] [(33, _, some 12)] rfl rfl rfl ⟨⟨rfl, rfl, rfl⟩, trivial⟩ (by kernel_rfl) (fun ext => ?_)) (HBK.mk (h := 16) [7, 11] [(5, _, some 14), (27, _, some 6)] rfl rfl rfl ⟨⟨rfl, rfl, rfl⟩, ⟨rfl, rfl, rfl⟩, trivial⟩ (by kernel_rfl) (fun ext => ?_))
      ·refine TL.makeSlice hF (k := qs.length) rfl rfl rfl (by omega) (by omega) rfl (fun b34 => ?_)
       rw [rowC_false]
       refine TL.finK trivial ?_
       refine DH.k1 (by kernel_rfl) (by kernel_rfl) (by kernel_rfl) (by kernel_rfl) (HBK.mk (h := 16) [] [(5, _, some 14), (27, _, some 6)] rfl rfl rfl ⟨⟨rfl, rfl, rfl⟩, ⟨rfl, rfl, rfl⟩, trivial⟩ (by kernel_rfl) (fun ext => ?_))
       refine TL.storeI hF 2 rfl rfl rfl rfl (by decide) ?_
       refine TL.finKN trivial ?_
       refine DH.done [(34, _), (6, _), (5, _), (27, _), (33, _), (32, _), (31, _), (30, _), (29, _), (28, _), (26, _), (25, _), (24, _), (23, _), (22, _), (21, _)] [_] (by kernel_rfl) (by kernel_rfl) (by kernel_rfl) (by kernel_rfl) rfl rfl ?_
       refine TL.storeI hF 1 rfl rfl rfl rfl (by decide) ?_
       refine TL.nil ?_
       refine TQ.pick [2, 4, 1, 3, 0] [_, _, _, _, _] rfl rfl rfl ?_
       exact TQ.cut (b4, b5, b6, b27, b34) trivial ⟨rfl, rfl, rfl, rfl, rfl, trivial⟩ rfl
      ·refine TL.storeI hF 1 rfl rfl rfl rfl (by decide) ?_
       refine TL.finKN ⟨⟨_, rfl, _, _, [(4, _, none)], rfl, rfl, ⟨⟨rfl, by kernel_rfl⟩, trivial⟩, fun ext => TL.load hF rfl (own_mem (cs := #[ptr lk]) (e := 83) (fz := (0, 0)) (by simp) rfl) rfl TL.fin⟩, ⟨_, rfl, _, _, [(31, _, some 10)], rfl, rfl, ⟨⟨rfl, rfl, rfl⟩, trivial⟩, fun ext => TL.load hF rfl (own_mem (cs := (rkV ⟨a2, qs.length, c2, 0, 0, 0, 0, lk, nb, bb, 0, 0⟩).toArray) (e := 86) (fz := (0, 0)) (by simp) rfl) rfl TL.fin⟩, trivial⟩ ?_
       refine DH.heavy 13 [(33, _, some 12)] (by kernel_rfl) (by kernel_rfl) (by kernel_rfl) (by kernel_rfl) rfl rfl rfl rfl ⟨⟨rfl, rfl, rfl⟩, trivial⟩ (by kernel_rfl) (fun ext => ?_)
       refine TL.makeSlice hF (k := qs.length) rfl rfl rfl (by omega) (by omega) rfl (fun b34 => ?_)
       rw [rowC_false]
       refine TL.finD ?_
       refine DH.done [(34, _), (6, _), (5, _), (27, _), (33, _), (32, _), (31, _), (30, _), (29, _), (28, _), (26, _), (25, _), (24, _), (23, _), (22, _), (21, _)] [_] (by kernel_rfl) (by kernel_rfl) (by kernel_rfl) (by kernel_rfl) rfl rfl ?_
       refine TL.storeI hF 1 rfl rfl rfl rfl (by decide) ?_
       refine TL.nil ?_
       refine TQ.pick [2, 4, 1, 3, 0] [_, _, _, _, _] rfl rfl rfl ?_
       exact TQ.cut (b4, b5, b6, b27, b34) trivial ⟨rfl, rfl, rfl, rfl, rfl, trivial⟩ rfl
    ·refine TL.alloc hF rfl (fun b6 => ?_)
     refine TL.finK ⟨⟨_, rfl, _, _, [(4, _, none)], rfl, rfl, ⟨⟨rfl, by kernel_rfl⟩, trivial⟩, fun ext => TL.load hF rfl (own_mem (cs := #[ptr lk]) (e := 83) (fz := (0, 0)) (by simp) rfl) rfl TL.fin⟩, ⟨_, rfl, _, _, [(31, _, some 10)], rfl, rfl, ⟨⟨rfl, rfl, rfl⟩, trivial⟩, fun ext => TL.load hF rfl (own_mem (cs := (rkV ⟨a2, qs.length, c2, 0, 0, 0, 0, lk, nb, bb, 0, 0⟩).toArray) (e := 86) (fz := (0, 0)) (by simp) rfl) rfl TL.fin⟩, trivial⟩ ?_
     refine DH.k2 (by kernel_rfl) (by kernel_rfl) (by kernel_rfl) (by kernel_rfl) (HBK.mk (h := 13) [] [(33, _, some 12)] rfl rfl rfl ⟨⟨rfl, rfl, rfl⟩, trivial⟩ (by kernel_rfl) (fun ext => ?_)) (HBK.mk (h := 14) [7, 11] [] rfl rfl rfl trivial (by kernel_rfl) (fun ext => ?_))
     ·refine TL.makeSlice hF (k := qs.length) rfl rfl rfl (by omega) (by omega) rfl (fun b34 => ?_)
      rw [rowC_false]
      refine TL.finK trivial ?_
      refine DH.heavy 14 [] (by kernel_rfl) (by kernel_rfl) (by kernel_rfl) (by kernel_rfl) rfl rfl rfl rfl trivial (by kernel_rfl) (fun ext => ?_)
      refine TL.alloc hF rfl (fun b5 => ?_)
      refine TL.finD ?_
      refine DH.k1 (by kernel_rfl) (by kernel_rfl) (by kernel_rfl) (by kernel_rfl) (HBK.mk (h := 16) [] [(5, _, some 14), (27, _, some 6)] rfl rfl rfl ⟨⟨rfl, rfl, rfl⟩, ⟨rfl, rfl, rfl⟩, trivial⟩ (by kernel_rfl) (fun ext => ?_))
      refine TL.storeI hF 0 rfl rfl rfl rfl (by decide) ?_
      refine TL.finKN trivial ?_
      refine DH.done [(5, _), (34, _), (6, _), (27, _), (33, _), (32, _), (31, _), (30, _), (29, _), (28, _), (26, _), (25, _), (24, _), (23, _), (22, _), (21, _)] [_] (by kernel_rfl) (by kernel_rfl) (by kernel_rfl) (by kernel_rfl) rfl rfl ?_
      refine TL.storeI hF 2 rfl rfl rfl rfl (by decide) ?_
      refine TL.nil ?_
      refine TQ.pick [0, 4, 2, 3, 1] [_, _, _, _, _] rfl rfl rfl ?_
      exact TQ.cut (b4, b5, b6, b27, b34) trivial ⟨rfl, rfl, rfl, rfl, rfl, trivial⟩ rfl
     ·refine TL.alloc hF rfl (fun b5 => ?_)
      refine TL.finK ⟨⟨_, rfl, _, _, [(4, _, none)], rfl, rfl, ⟨⟨rfl, by kernel_rfl⟩, trivial⟩, fun ext => TL.load hF rfl (own_mem (cs := #[ptr lk]) (e := 83) (fz := (0, 0)) (by simp) rfl) rfl TL.fin⟩, ⟨_, rfl, _, _, [(31, _, some 10)], rfl, rfl, ⟨⟨rfl, rfl, rfl⟩, trivial⟩, fun ext => TL.load hF rfl (own_mem (cs := (rkV ⟨a2, qs.length, c2, 0, 0, 0, 0, lk, nb, bb, 0, 0⟩).toArray) (e := 86) (fz := (0, 0)) (by simp) rfl) rfl TL.fin⟩, trivial⟩ ?_
      refine DH.k2 (by kernel_rfl) (by kernel_rfl) (by kernel_rfl) (by kernel_rfl) (HBK.mk (h := 13) [] [(33, _, some 12)] rfl rfl rfl ⟨⟨rfl, rfl, rfl⟩, trivial⟩ (by kernel_rfl) (fun ext => ?_)) (HBK.mk (h := 16) [7, 11] [(5, _, some 14), (27, _, some 6)] rfl rfl rfl ⟨⟨rfl, rfl, rfl⟩, ⟨rfl, rfl, rfl⟩, trivial⟩ (by kernel_rfl) (fun ext => ?_))
      ·refine TL.makeSlice hF (k := qs.length) rfl rfl rfl (by omega) (by omega) rfl (fun b34 => ?_)
       rw [rowC_false]
       refine TL.finK trivial ?_
       refine DH.k1 (by kernel_rfl) (by kernel_rfl) (by kernel_rfl) (by kernel_rfl) (HBK.mk (h := 16) [] [(5, _, some 14), (27, _, some 6)] rfl rfl rfl ⟨⟨rfl, rfl, rfl⟩, ⟨rfl, rfl, rfl⟩, trivial⟩ (by kernel_rfl) (fun ext => ?_))
       refine TL.storeI hF 1 rfl rfl rfl rfl (by decide) ?_
       refine TL.finKN trivial ?_
       refine DH.done [(34, _), (5, _), (6, _), (27, _), (33, _), (32, _), (31, _), (30, _), (29, _), (28, _), (26, _), (25, _), (24, _), (23, _), (22, _), (21, _)] [_] (by kernel_rfl) (by kernel_rfl) (by kernel_rfl) (by kernel_rfl) rfl rfl ?_
       refine TL.storeI hF 2 rfl rfl rfl rfl (by decide) ?_
       refine TL.nil ?_
       refine TQ.pick [1, 4, 2, 3, 0] [_, _, _, _, _] rfl rfl rfl ?_
       exact TQ.cut (b4, b5, b6, b27, b34) trivial ⟨rfl, rfl, rfl, rfl, rfl, trivial⟩ rfl
      ·refine TL.storeI hF 0 rfl rfl rfl rfl (by decide) ?_
       refine TL.finKN ⟨⟨_, rfl, _, _, [(4, _, none)], rfl, rfl, ⟨⟨rfl, by kernel_rfl⟩, trivial⟩, fun ext => TL.load hF rfl (own_mem (cs := #[ptr lk]) (e := 83) (fz := (0, 0)) (by simp) rfl) rfl TL.fin⟩, ⟨_, rfl, _, _, [(31, _, some 10)], rfl, rfl, ⟨⟨rfl, rfl, rfl⟩, trivial⟩, fun ext => TL.load hF rfl (own_mem (cs := (rkV ⟨a2, qs.length, c2, 0, 0, 0, 0, lk, nb, bb, 0, 0⟩).toArray) (e := 86) (fz := (0, 0)) (by simp) rfl) rfl TL.fin⟩, trivial⟩ ?_
       refine DH.heavy 13 [(33, _, some 12)] (by kernel_rfl) (by kernel_rfl) (by kernel_rfl) (by kernel_rfl) rfl rfl rfl rfl ⟨⟨rfl, rfl, rfl⟩, trivial⟩ (by kernel_rfl) (fun ext => ?_)
       refine TL.makeSlice hF (k := qs.length) rfl rfl rfl (by omega) (by omega) rfl (fun b34 => ?_)
       rw [rowC_false]
       refine TL.finD ?_
       refine DH.done [(34, _), (5, _), (6, _), (27, _), (33, _), (32, _), (31, _), (30, _), (29, _), (28, _), (26, _), (25, _), (24, _), (23, _), (22, _), (21, _)] [_] (by kernel_rfl) (by kernel_rfl) (by kernel_rfl) (by kernel_rfl) rfl rfl ?_
       refine TL.storeI hF 2 rfl rfl rfl rfl (by decide) ?_
       refine TL.nil ?_
       refine TQ.pick [1, 4, 2, 3, 0] [_, _, _, _, _] rfl rfl rfl ?_
       exact TQ.cut (b4, b5, b6, b27, b34) trivial ⟨rfl, rfl, rfl, rfl, rfl, trivial⟩ rfl
   ·refine TL.makeSlice hF (k := qs.length) rfl rfl rfl (by omega) (by omega) rfl (fun b34 => ?_)
    rw [rowC_false]
    refine TL.finK ⟨⟨_, rfl, _, _, [(4, _, none)], rfl, rfl, ⟨⟨rfl, by kernel_rfl⟩, trivial⟩, fun ext => TL.load hF rfl (own_mem (cs := #[ptr lk]) (e := 83) (fz := (0, 0)) (by simp) rfl) rfl TL.fin⟩, ⟨_, rfl, _, _, [(24, _, some 3)], rfl, rfl, ⟨⟨rfl, rfl, rfl⟩, trivial⟩, fun ext => TL.load hF rfl (own_mem (cs := (rkV ⟨a2, qs.length, c2, 0, 0, 0, 0, lk, nb, bb, 0, 0⟩).toArray) (e := 86) (fz := (0, 0)) (by simp) rfl) rfl TL.fin⟩, trivial⟩ ?_
    refine DH.k3 (by kernel_rfl) (by kernel_rfl) (by kernel_rfl) (by kernel_rfl) (HBK.mk (h := 6) [] [(26, _, some 5)] rfl rfl rfl ⟨⟨rfl, rfl, rfl⟩, trivial⟩ (by kernel_rfl) (fun ext => ?_)) (HBK.mk (h := 14) [0, 4] [] rfl rfl rfl trivial (by kernel_rfl) (fun ext => ?_)) (HBK.mk (h := 15) [0, 4] [] rfl rfl rfl trivial (by kernel_rfl) (fun ext => ?_))
    ·refine TL.makeSlice hF (k := qs.length) rfl rfl rfl (by omega) (by omega) rfl (fun b27 => ?_)
     rw [rowC_false]
     refine TL.finK trivial ?_
     refine DH.heavy2 (h1 := 14) (h2 := 15) (by kernel_rfl) (by kernel_rfl) (by kernel_rfl) (by kernel_rfl) ⟨_, _, [], rfl, rfl, rfl, rfl, trivial, by kernel_rfl, fun ext => ?_⟩ ⟨_, _, [], rfl, rfl, rfl, rfl, trivial, by kernel_rfl, fun ext => ?_⟩
     ·refine TL.alloc hF rfl (fun b5 => ?_)
      refine TL.finD ?_
      refine DH.heavy 15 [] (by kernel_rfl) (by kernel_rfl) (by kernel_rfl) (by kernel_rfl) rfl rfl rfl rfl trivial (by kernel_rfl) (fun ext => ?_)
      refine TL.alloc hF rfl (fun b6 => ?_)
      refine TL.finD ?_
      refine DH.k1 (by kernel_rfl) (by kernel_rfl) (by kernel_rfl) (by kernel_rfl) (HBK.mk (h := 16) [] [(5, _, some 14), (27, _, some 6)] rfl rfl rfl ⟨⟨rfl, rfl, rfl⟩, ⟨rfl, rfl, rfl⟩, trivial⟩ (by kernel_rfl) (fun ext => ?_))
      refine TL.storeI hF 1 rfl rfl rfl rfl (by decide) ?_
      refine TL.finKN trivial ?_
      refine DH.done [(6, _), (5, _), (27, _), (34, _), (33, _), (32, _), (31, _), (30, _), (29, _), (28, _), (26, _), (25, _), (24, _), (23, _), (22, _), (21, _)] [_] (by kernel_rfl) (by kernel_rfl) (by kernel_rfl) (by kernel_rfl) rfl rfl ?_
      refine TL.storeI hF 0 rfl rfl rfl rfl (by decide) ?_
      refine TL.nil ?_
      refine TQ.pick [1, 4, 0, 2, 3] [_, _, _, _, _] rfl rfl rfl ?_
      exact TQ.cut (b4, b5, b6, b27, b34) trivial ⟨rfl, rfl, rfl, rfl, rfl, trivial⟩ rfl
     ·refine TL.alloc hF rfl (fun b6 => ?_)
      refine TL.finD ?_
      refine DH.heavy 14 [] (by kernel_rfl) (by kernel_rfl) (by kernel_rfl) (by kernel_rfl) rfl rfl rfl rfl trivial (by kernel_rfl) (fun ext => ?_)
      refine TL.alloc hF rfl (fun b5 => ?_)
      refine TL.finD ?_
      refine DH.k1 (by kernel_rfl) (by kernel_rfl) (by kernel_rfl) (by kernel_rfl) (HBK.mk (h := 16) [] [(5, _, some 14), (27, _, some 6)] rfl rfl rfl ⟨⟨rfl, rfl, rfl⟩, ⟨rfl, rfl, rfl⟩, trivial⟩ (by kernel_rfl) (fun ext => ?_))
      refine TL.storeI hF 0 rfl rfl rfl rfl (by decide) ?_
      refine TL.finKN trivial ?_
      refine DH.done [(5, _), (6, _), (27, _), (34, _), (33, _), (32, _), (31, _), (30, _), (29, _), (28, _), (26, _), (25, _), (24, _), (23, _), (22, _), (21, _)] [_] (by kernel_rfl) (by kernel_rfl) (by kernel_rfl) (by kernel_rfl) rfl rfl ?_
      refine TL.storeI hF 1 rfl rfl rfl rfl (by decide) ?_
      refine TL.nil ?_
      refine TQ.pick [0, 4, 1, 2, 3] [_, _, _, _, _] rfl rfl rfl ?_
      exact TQ.cut (b4, b5, b6, b27, b34) trivial ⟨rfl, rfl, rfl, rfl, rfl, trivial⟩ rfl
    ·refine TL.alloc hF rfl (fun b5 => ?_)
     refine TL.finK ⟨⟨_, rfl, _, _, [(4, _, none)], rfl, rfl, ⟨⟨rfl, by kernel_rfl⟩, trivial⟩, fun ext => TL.load hF rfl (own_mem (cs := #[ptr lk]) (e := 83) (fz := (0, 0)) (by simp) rfl) rfl TL.fin⟩, ⟨_, rfl, _, _, [(24, _, some 3)], rfl, rfl, ⟨⟨rfl, rfl, rfl⟩, trivial⟩, fun ext => TL.load hF rfl (own_mem (cs := (rkV ⟨a2, qs.length, c2, 0, 0, 0, 0, lk, nb, bb, 0, 0⟩).toArray) (e := 86) (fz := (0, 0)) (by simp) rfl) rfl TL.fin⟩, trivial⟩ ?_
     refine DH.k2 (by kernel_rfl) (by kernel_rfl) (by kernel_rfl) (by kernel_rfl) (HBK.mk (h := 6) [] [(26, _, some 5)] rfl rfl rfl ⟨⟨rfl, rfl, rfl⟩, trivial⟩ (by kernel_rfl) (fun ext => ?_)) (HBK.mk (h := 15) [0, 4] [] rfl rfl rfl trivial (by kernel_rfl) (fun ext => ?_))
     ·refine TL.makeSlice hF (k := qs.length) rfl rfl rfl (by omega) (by omega) rfl (fun b27 => ?_)
      rw [rowC_false]
      refine TL.finK trivial ?_
      refine DH.heavy 15 [] (by kernel_rfl) (by kernel_rfl) (by kernel_rfl) (by kernel_rfl) rfl rfl rfl rfl trivial (by kernel_rfl) (fun ext => ?_)
      refine TL.alloc hF rfl (fun b6 => ?_)
      refine TL.finD ?_
      refine DH.k1 (by kernel_rfl) (by kernel_rfl) (by kernel_rfl) (by kernel_rfl) (HBK.mk (h := 16) [] [(5, _, some 14), (27, _, some 6)] rfl rfl rfl ⟨⟨rfl, rfl, rfl⟩, ⟨rfl, rfl, rfl⟩, trivial⟩ (by kernel_rfl) (fun ext => ?_))
      refine TL.storeI hF 2 rfl rfl rfl rfl (by decide) ?_
      refine TL.finKN trivial ?_
      refine DH.done [(6, _), (27, _), (5, _), (34, _), (33, _), (32, _), (31, _), (30, _), (29, _), (28, _), (26, _), (25, _), (24, _), (23, _), (22, _), (21, _)] [_] (by kernel_rfl) (by kernel_rfl) (by kernel_rfl) (by kernel_rfl) rfl rfl ?_
      refine TL.storeI hF 0 rfl rfl rfl rfl (by decide) ?_
      refine TL.nil ?_
      refine TQ.pick [2, 4, 0, 1, 3] [_, _, _, _, _] rfl rfl rfl ?_
      exact TQ.cut (b4, b5, b6, b27, b34) trivial ⟨rfl, rfl, rfl, rfl, rfl, trivial⟩ rfl
     ·refine TL.alloc hF rfl (fun b6 => ?_)
      refine TL.finK ⟨⟨_, rfl, _, _, [(4, _, none)], rfl, rfl, ⟨⟨rfl, by kernel_rfl⟩, trivial⟩, fun ext => TL.load hF rfl (own_mem (cs := #[ptr lk]) (e := 83) (fz := (0, 0)) (by simp) rfl) rfl TL.fin⟩, ⟨_, rfl, _, _, [(24, _, some 3)], rfl, rfl, ⟨⟨rfl, rfl, rfl⟩, trivial⟩, fun ext => TL.load hF rfl (own_mem (cs := (rkV ⟨a2, qs.length, c2, 0, 0, 0, 0, lk, nb, bb, 0, 0⟩).toArray) (e := 86) (fz := (0, 0)) (by simp) rfl) rfl TL.fin⟩, trivial⟩ ?_
      refine DH.heavy 6 [(26, _, some 5)] (by kernel_rfl) (by kernel_rfl) (by kernel_rfl) (by kernel_rfl) rfl rfl rfl rfl ⟨⟨rfl, rfl, rfl⟩, trivial⟩ (by kernel_rfl) (fun ext => ?_)
      refine TL.makeSlice hF (k := qs.length) rfl rfl rfl (by omega) (by omega) rfl (fun b27 => ?_)
      rw [rowC_false]
      refine TL.finD ?_
      refine DH.k1 (by kernel_rfl) (by kernel_rfl) (by kernel_rfl) (by kernel_rfl) (HBK.mk (h := 16) [] [(5, _, some 14), (27, _, some 6)] rfl rfl rfl ⟨⟨rfl, rfl, rfl⟩, ⟨rfl, rfl, rfl⟩, trivial⟩ (by kernel_rfl) (fun ext => ?_))
      refine TL.storeI hF 2 rfl rfl rfl rfl (by decide) ?_
      refine TL.finKN trivial ?_
      refine DH.done [(27, _), (6, _), (5, _), (34, _), (33, _), (32, _), (31, _), (30, _), (29, _), (28, _), (26, _), (25, _), (24, _), (23, _), (22, _), (21, _)] [_] (by kernel_rfl) (by kernel_rfl) (by kernel_rfl) (by kernel_rfl) rfl rfl ?_
      refine TL.storeI hF 1 rfl rfl rfl rfl (by decide) ?_
      refine TL.nil ?_
      refine TQ.pick [2, 4, 1, 0, 3] [_, _, _, _, _] rfl rfl rfl ?_
      exact TQ.cut (b4, b5, b6, b27, b34) trivial ⟨rfl, rfl, rfl, rfl, rfl, trivial⟩ rfl
    ·refine TL.alloc hF rfl (fun b6 => ?_)
     refine TL.finK ⟨⟨_, rfl, _, _, [(4, _, none)], rfl, rfl, ⟨⟨rfl, by kernel_rfl⟩, trivial⟩, fun ext => TL.load hF rfl (own_mem (cs := #[ptr lk]) (e := 83) (fz := (0, 0)) (by simp) rfl) rfl TL.fin⟩, ⟨_, rfl, _, _, [(24, _, some 3)], rfl, rfl, ⟨⟨rfl, rfl, rfl⟩, trivial⟩, fun ext => TL.load hF rfl (own_mem (cs := (rkV ⟨a2, qs.length, c2, 0, 0, 0, 0, lk, nb, bb, 0, 0⟩).toArray) (e := 86) (fz := (0, 0)) (by simp) rfl) rfl TL.fin⟩, trivial⟩ ?_
     refine DH.k2 (by kernel_rfl) (by kernel_rfl) (by kernel_rfl) (by kernel_rfl) (HBK.mk (h := 6) [] [(26, _, some 5)] rfl rfl rfl ⟨⟨rfl, rfl, rfl⟩, trivial⟩ (by kernel_rfl) (fun ext => ?_)) (HBK.mk (h := 14) [0, 4] [] rfl rfl rfl trivial (by kernel_rfl) (fun ext => ?_))
     ·refine TL.makeSlice hF (k := qs.length) rfl rfl rfl (by omega) (by omega) rfl (fun b27 => ?_)
      rw [rowC_false]
      refine TL.finK trivial ?_
      refine DH.heavy 14 [] (by kernel_rfl) (by kernel_rfl) (by kernel_rfl) (by kernel_rfl) rfl rfl rfl rfl trivial (by kernel_rfl) (fun ext => ?_)
      refine TL.alloc hF rfl (fun b5 => ?_)
      refine TL.finD ?_
      refine DH.k1 (by kernel_rfl) (by kernel_rfl) (by kernel_rfl) (by kernel_rfl) (HBK.mk (h := 16) [] [(5, _, some 14), (27, _, some 6)] rfl rfl rfl ⟨⟨rfl, rfl, rfl⟩, ⟨rfl, rfl, rfl⟩, trivial⟩ (by kernel_rfl) (fun ext => ?_))
      refine TL.storeI hF 0 rfl rfl rfl rfl (by decide) ?_
      refine TL.finKN trivial ?_
      refine DH.done [(5, _), (27, _), (6, _), (34, _), (33, _), (32, _), (31, _), (30, _), (29, _), (28, _), (26, _), (25, _), (24, _), (23, _), (22, _), (21, _)] [_] (by kernel_rfl) (by kernel_rfl) (by kernel_rfl) (by kernel_rfl) rfl rfl ?_
      refine TL.storeI hF 2 rfl rfl rfl rfl (by decide) ?_
      refine TL.nil ?_
      refine TQ.pick [0, 4, 2, 1, 3] [_, _, _, _, _] rfl rfl rfl ?_
      exact TQ.cut (b4, b5, b6, b27, b34) trivial ⟨rfl, rfl, rfl, rfl, rfl, trivial⟩ rfl
     ·refine TL.alloc hF rfl (fun b5 => ?_)
      refine TL.finK ⟨⟨_, rfl, _, _, [(4, _, none)], rfl, rfl, ⟨⟨rfl, by kernel_rfl⟩, trivial⟩, fun ext => TL.load hF rfl (own_mem (cs := #[ptr lk]) (e := 83) (fz := (0, 0)) (by simp) rfl) rfl TL.fin⟩, ⟨_, rfl, _, _, [(24, _, some 3)], rfl, rfl, ⟨⟨rfl, rfl, rfl⟩, trivial⟩, fun ext => TL.load hF rfl (own_mem (cs := (rkV ⟨a2, qs.length, c2, 0, 0, 0, 0, lk, nb, bb, 0, 0⟩).toArray) (e := 86) (fz := (0, 0)) (by simp) rfl) rfl TL.fin⟩, trivial⟩ ?_
      refine DH.heavy 6 [(26, _, some 5)] (by kernel_rfl) (by kernel_rfl) (by kernel_rfl) (by kernel_rfl) rfl rfl rfl rfl ⟨⟨rfl, rfl, rfl⟩, trivial⟩ (by kernel_rfl) (fun ext => ?_)
      refine TL.makeSlice hF (k := qs.length) rfl rfl rfl (by omega) (by omega) rfl (fun b27 => ?_)
      rw [rowC_false]
      refine TL.finD ?_
      refine DH.k1 (by kernel_rfl) (by kernel_rfl) (by kernel_rfl) (by kernel_rfl) (HBK.mk (h := 16) [] [(5, _, some 14), (27, _, some 6)] rfl rfl rfl ⟨⟨rfl, rfl, rfl⟩, ⟨rfl, rfl, rfl⟩, trivial⟩ (by kernel_rfl) (fun ext => ?_))
      refine TL.storeI hF 1 rfl rfl rfl rfl (by decide) ?_
      refine TL.finKN trivial ?_
      refine DH.done [(27, _), (5, _), (6, _), (34, _), (33, _), (32, _), (31, _), (30, _), (29, _), (28, _), (26, _), (25, _), (24, _), (23, _), (22, _), (21, _)] [_] (by kernel_rfl) (by kernel_rfl) (by kernel_rfl) (by kernel_rfl) rfl rfl ?_
      refine TL.storeI hF 2 rfl rfl rfl rfl (by decide) ?_
      refine TL.nil ?_
      refine TQ.pick [1, 4, 2, 0, 3] [_, _, _, _, _] rfl rfl rfl ?_
      exact TQ.cut (b4, b5, b6, b27, b34) trivial ⟨rfl, rfl, rfl, rfl, rfl, trivial⟩ rfl
   ·refine TL.alloc hF rfl (fun b5 => ?_)
    refine TL.finK ⟨⟨_, rfl, _, _, [(4, _, none)], rfl, rfl, ⟨⟨rfl, by kernel_rfl⟩, trivial⟩, fun ext => TL.load hF rfl (own_mem (cs := #[ptr lk]) (e := 83) (fz := (0, 0)) (by simp) rfl) rfl TL.fin⟩, ⟨_, rfl, _, _, [(24, _, some 3)], rfl, rfl, ⟨⟨rfl, rfl, rfl⟩, trivial⟩, fun ext => TL.load hF rfl (own_mem (cs := (rkV ⟨a2, qs.length, c2, 0, 0, 0, 0, lk, nb, bb, 0, 0⟩).toArray) (e := 86) (fz := (0, 0)) (by simp) rfl) rfl TL.fin⟩, ⟨_, rfl, _, _, [(4, _, none)], rfl, rfl, ⟨⟨rfl, by kernel_rfl⟩, trivial⟩, fun ext => TL.load hF rfl (own_mem (cs := #[ptr lk]) (e := 83) (fz := (0, 0)) (by simp) rfl) rfl TL.fin⟩, ⟨_, rfl, _, _, [(31, _, some 10)], rfl, rfl, ⟨⟨rfl, rfl, rfl⟩, trivial⟩, fun ext => TL.load hF rfl (own_mem (cs := (rkV ⟨a2, qs.length, c2, 0, 0, 0, 0, lk, nb, bb, 0, 0⟩).toArray) (e := 86) (fz := (0, 0)) (by simp) rfl) rfl TL.fin⟩, trivial⟩ ?_
    refine DH.k3 (by kernel_rfl) (by kernel_rfl) (by kernel_rfl) (by kernel_rfl) (HBK.mk (h := 6) [7, 11] [(26, _, some 5)] rfl rfl rfl ⟨⟨rfl, rfl, rfl⟩, trivial⟩ (by kernel_rfl) (fun ext => ?_)) (HBK.mk (h := 13) [0, 4] [(33, _, some 12)] rfl rfl rfl ⟨⟨rfl, rfl, rfl⟩, trivial⟩ (by kernel_rfl) (fun ext => ?_)) (HBK.mk (h := 15) [0, 4, 7, 11] [] rfl rfl rfl trivial (by kernel_rfl) (fun ext => ?_))
    ·refine TL.makeSlice hF (k := qs.length) rfl rfl rfl (by omega) (by omega) rfl (fun b27 => ?_)
     rw [rowC_false]
     refine TL.finK ⟨⟨_, rfl, _, _, [(4, _, none)], rfl, rfl, ⟨⟨rfl, by kernel_rfl⟩, trivial⟩, fun ext => TL.load hF rfl (own_mem (cs := #[ptr lk]) (e := 83) (fz := (0, 0)) (by simp) rfl) rfl TL.fin⟩, ⟨_, rfl, _, _, [(31, _, some 10)], rfl, rfl, ⟨⟨rfl, rfl, rfl⟩, trivial⟩, fun ext => TL.load hF rfl (own_mem (cs := (rkV ⟨a2, qs.length, c2, 0, 0, 0, 0, lk, nb, bb, 0, 0⟩).toArray) (e := 86) (fz := (0, 0)) (by simp) rfl) rfl TL.fin⟩, trivial⟩ ?_
     refine DH.k2 (by kernel_rfl) (by kernel_rfl) (by kernel_rfl) (by kernel_rfl) (HBK.mk (h := 13) [] [(33, _, some 12)] rfl rfl rfl ⟨⟨rfl, rfl, rfl⟩, trivial⟩ (by kernel_rfl) (fun ext => ?_)) (HBK.mk (h := 15) [7, 11] [] rfl rfl rfl trivial (by kernel_rfl) (fun ext => ?_))
     ·refine TL.makeSlice hF (k := qs.length) rfl rfl rfl (by omega) (by omega) rfl (fun b34 => ?_)
      rw [rowC_false]
      refine TL.finK trivial ?_
      refine DH.heavy 15 [] (by kernel_rfl) (by kernel_rfl) (by kernel_rfl) (by kernel_rfl) rfl rfl rfl rfl trivial (by kernel_rfl) (fun ext => ?_)
      refine TL.alloc hF rfl (fun b6 => ?_)
      refine TL.finD ?_
      refine DH.k1 (by kernel_rfl) (by kernel_rfl) (by kernel_rfl) (by kernel_rfl) (HBK.mk (h := 16) [] [(5, _, some 14), (27, _, some 6)] rfl rfl rfl ⟨⟨rfl, rfl, rfl⟩, ⟨rfl, rfl, rfl⟩, trivial⟩ (by kernel_rfl) (fun ext => ?_))
      refine TL.storeI hF 3 rfl rfl rfl rfl (by decide) ?_
      refine TL.finKN trivial ?_
      refine DH.done [(6, _), (34, _), (27, _), (5, _), (33, _), (32, _), (31, _), (30, _), (29, _), (28, _), (26, _), (25, _), (24, _), (23, _), (22, _), (21, _)] [_] (by kernel_rfl) (by kernel_rfl) (by kernel_rfl) (by kernel_rfl) rfl rfl ?_
      refine TL.storeI hF 0 rfl rfl rfl rfl (by decide) ?_
      refine TL.nil ?_
      refine TQ.pick [3, 4, 0, 2, 1] [_, _, _, _, _] rfl rfl rfl ?_
      exact TQ.cut (b4, b5, b6, b27, b34) trivial ⟨rfl, rfl, rfl, rfl, rfl, trivial⟩ rfl
     ·refine TL.alloc hF rfl (fun b6 => ?_)
      refine TL.finK ⟨⟨_, rfl, _, _, [(4, _, none)], rfl, rfl, ⟨⟨rfl, by kernel_rfl⟩, trivial⟩, fun ext => TL.load hF rfl (own_mem (cs := #[ptr lk]) (e := 83) (fz := (0, 0)) (by simp) rfl) rfl TL.fin⟩, ⟨_, rfl, _, _, [(31, _, some 10)], rfl, rfl, ⟨⟨rfl, rfl, rfl⟩, trivial⟩, fun ext => TL.load hF rfl (own_mem (cs := (rkV ⟨a2, qs.length, c2, 0, 0, 0, 0, lk, nb, bb, 0, 0⟩).toArray) (e := 86) (fz := (0, 0)) (by simp) rfl) rfl TL.fin⟩, trivial⟩ ?_
      refine DH.k2 (by kernel_rfl) (by kernel_rfl) (by kernel_rfl) (by kernel_rfl) (HBK.mk (h := 13) [] [(33, _, some 12)] rfl rfl rfl ⟨⟨rfl, rfl, rfl⟩, trivial⟩ (by kernel_rfl) (fun ext => ?_)) (HBK.mk (h := 16) [7, 11] [(5, _, some 14), (27, _, some 6)] rfl rfl rfl ⟨⟨rfl, rfl, rfl⟩, ⟨rfl, rfl, rfl⟩, trivial⟩ (by kernel_rfl) (fun ext => ?_))
      ·refine TL.makeSlice hF (k := qs.length) rfl rfl rfl (by omega) (by omega) rfl (fun b34 => ?_)
       rw [rowC_false]
       refine TL.finK trivial ?_
       refine DH.k1 (by kernel_rfl) (by kernel_rfl) (by kernel_rfl) (by kernel_rfl) (HBK.mk (h := 16) [] [(5, _, some 14), (27, _, some 6)] rfl rfl rfl ⟨⟨rfl, rfl, rfl⟩, ⟨rfl, rfl, rfl⟩, trivial⟩ (by kernel_rfl) (fun ext => ?_))
       refine TL.storeI hF 3 rfl rfl rfl rfl (by decide) ?_
       refine TL.finKN trivial ?_
       refine DH.done [(34, _), (6, _), (27, _), (5, _), (33, _), (32, _), (31, _), (30, _), (29, _), (28, _), (26, _), (25, _), (24, _), (23, _), (22, _), (21, _)] [_] (by kernel_rfl) (by kernel_rfl) (by kernel_rfl) (by kernel_rfl) rfl rfl ?_
       refine TL.storeI hF 1 rfl rfl rfl rfl (by decide) ?_
       refine TL.nil ?_
       refine TQ.pick [3, 4, 1, 2, 0] [_, _, _, _, _] rfl rfl rfl ?_
       exact TQ.cut (b4, b5, b6, b27, b34) trivial ⟨rfl, rfl, rfl, rfl, rfl, trivial⟩ rfl
      ·refine TL.storeI hF 2 rfl rfl rfl rfl (by decide) ?_
       refine TL.finKN ⟨⟨_, rfl, _, _, [(4, _, none)], rfl, rfl, ⟨⟨rfl, by kernel_rfl⟩, trivial⟩, fun ext => TL.load hF rfl (own_mem (cs := #[ptr lk]) (e := 83) (fz := (0, 0)) (by simp) rfl) rfl TL.fin⟩, ⟨_, rfl, _, _, [(31, _, some 10)], rfl, rfl, ⟨⟨rfl, rfl, rfl⟩, trivial⟩, fun ext => TL.load hF rfl (own_mem (cs := (rkV ⟨a2, qs.length, c2, 0, 0, 0, 0, lk, nb, bb, 0, 0⟩).toArray) (e := 86) (fz := (0, 0)) (by simp) rfl) rfl TL.fin⟩, trivial⟩ ?_
       refine DH.heavy 13 [(33, _, some 12)] (by kernel_rfl) (by kernel_rfl) (by kernel_rfl) (by kernel_rfl) rfl rfl rfl rfl ⟨⟨rfl, rfl, rfl⟩, trivial⟩ (by kernel_rfl) (fun ext => ?_)
       refine TL.makeSlice hF (k := qs.length) rfl rfl rfl (by omega) (by omega) rfl (fun b34 => ?_)
       rw [rowC_false]
       refine TL.finD ?_
       refine DH.done [(34, _), (6, _), (27, _), (5, _), (33, _), (32, _), (31, _), (30, _), (29, _), (28, _), (26, _), (25, _), (24, _), (23, _), (22, _), (21, _)] [_] (by kernel_rfl) (by kernel_rfl) (by kernel_rfl) (by kernel_rfl) rfl rfl ?_
       refine TL.storeI hF 1 rfl rfl rfl rfl (by decide) ?_
       refine TL.nil ?_
       refine TQ.pick [3, 4, 1, 2, 0] [_, _, _, _, _] rfl rfl rfl ?_
       exact TQ.cut (b4, b5, b6, b27, b34) trivial ⟨rfl, rfl, rfl, rfl, rfl, trivial⟩ rfl
    ·refine TL.makeSlice hF (k := qs.length) rfl rfl rfl (by omega) (by omega) rfl (fun b34 => ?_)
     rw [rowC_false]
     refine TL.finK ⟨⟨_, rfl, _, _, [(4, _, none)], rfl, rfl, ⟨⟨rfl, by kernel_rfl⟩, trivial⟩, fun ext => TL.load hF rfl (own_mem (cs := #[ptr lk]) (e := 83) (fz := (0, 0)) (by simp) rfl) rfl TL.fin⟩, ⟨_, rfl, _, _, [(24, _, some 3)], rfl, rfl, ⟨⟨rfl, rfl, rfl⟩, trivial⟩, fun ext => TL.load hF rfl (own_mem (cs := (rkV ⟨a2, qs.length, c2, 0, 0, 0, 0, lk, nb, bb, 0, 0⟩).toArray) (e := 86) (fz := (0, 0)) (by simp) rfl) rfl TL.fin⟩, trivial⟩ ?_
     refine DH.k2 (by kernel_rfl) (by kernel_rfl) (by kernel_rfl) (by kernel_rfl) (HBK.mk (h := 6) [] [(26, _, some 5)] rfl rfl rfl ⟨⟨rfl, rfl, rfl⟩, trivial⟩ (by kernel_rfl) (fun ext => ?_)) (HBK.mk (h := 15) [0, 4] [] rfl rfl rfl trivial (by kernel_rfl) (fun ext => ?_))
     ·refine TL.makeSlice hF (k := qs.length) rfl rfl rfl (by omega) (by omega) rfl (fun b27 => ?_)
      rw [rowC_false]
      refine TL.finK trivial ?_
      refine DH.heavy 15 [] (by kernel_rfl) (by kernel_rfl) (by kernel_rfl) (by kernel_rfl) rfl rfl rfl rfl trivial (by kernel_rfl) (fun ext => ?_)
      refine TL.alloc hF rfl (fun b6 => ?_)
      refine TL.finD ?_
      refine DH.k1 (by kernel_rfl) (by kernel_rfl) (by kernel_rfl) (by kernel_rfl) (HBK.mk (h := 16) [] [(5, _, some 14), (27, _, some 6)] rfl rfl rfl ⟨⟨rfl, rfl, rfl⟩, ⟨rfl, rfl, rfl⟩, trivial⟩ (by kernel_rfl) (fun ext => ?_))
      refine TL.storeI hF 3 rfl rfl rfl rfl (by decide) ?_
      refine TL.finKN trivial ?_
      refine DH.done [(6, _), (27, _), (34, _), (5, _), (33, _), (32, _), (31, _), (30, _), (29, _), (28, _), (26, _), (25, _), (24, _), (23, _), (22, _), (21, _)] [_] (by kernel_rfl) (by kernel_rfl) (by kernel_rfl) (by kernel_rfl) rfl rfl ?_
      refine TL.storeI hF 0 rfl rfl rfl rfl (by decide) ?_
      refine TL.nil ?_
      refine TQ.pick [3, 4, 0, 1, 2] [_, _, _, _, _] rfl rfl rfl ?_
      exact TQ.cut (b4, b5, b6, b27, b34) trivial ⟨rfl, rfl, rfl, rfl, rfl, trivial⟩ rfl
     ·refine TL.alloc hF rfl (fun b6 => ?_)
      refine TL.finK ⟨⟨_, rfl, _, _, [(4, _, none)], rfl, rfl, ⟨⟨rfl, by kernel_rfl⟩, trivial⟩, fun ext => TL.load hF rfl (own_mem (cs := #[ptr lk]) (e := 83) (fz := (0, 0)) (by simp) rfl) rfl TL.fin⟩, ⟨_, rfl, _, _, [(24, _, some 3)], rfl, rfl, ⟨⟨rfl, rfl, rfl⟩, trivial⟩, fun ext => TL.load hF rfl (own_mem (cs := (rkV ⟨a2, qs.length, c2, 0, 0, 0, 0, lk, nb, bb, 0, 0⟩).toArray) (e := 86) (fz := (0, 0)) (by simp) rfl) rfl TL.fin⟩, trivial⟩ ?_
      refine DH.heavy 6 [(26, _, some 5)] (by kernel_rfl) (by kernel_rfl) (by kernel_rfl) (by kernel_rfl) rfl rfl rfl rfl ⟨⟨rfl, rfl, rfl⟩, trivial⟩ (by kernel_rfl) (fun ext => ?_)
      refine TL.makeSlice hF (k := qs.length) rfl rfl rfl (by omega) (by omega) rfl (fun b27 => ?_)
      rw [rowC_false]
      refine TL.finD ?_
      refine DH.k1 (by kernel_rfl) (by kernel_rfl) (by kernel_rfl) (by kernel_rfl) (HBK.mk (h := 16) [] [(5, _, some 14), (27, _, some 6)] rfl rfl rfl ⟨⟨rfl, rfl, rfl⟩, ⟨rfl, rfl, rfl⟩, trivial⟩ (by kernel_rfl) (fun ext => ?_))
      refine TL.storeI hF 3 rfl rfl rfl rfl (by decide) ?_
      refine TL.finKN trivial ?_
      refine DH.done [(27, _), (6, _), (34, _), (5, _), (33, _), (32, _), (31, _), (30, _), (29, _), (28, _), (26, _), (25, _), (24, _), (23, _), (22, _), (21, _)] [_] (by kernel_rfl) (by kernel_rfl) (by kernel_rfl) (by kernel_rfl) rfl rfl ?_
      refine TL.storeI hF 1 rfl rfl rfl rfl (by decide) ?_
      refine TL.nil ?_
      refine TQ.pick [3, 4, 1, 0, 2] [_, _, _, _, _] rfl rfl rfl ?_
      exact TQ.cut (b4, b5, b6, b27, b34) trivial ⟨rfl, rfl, rfl, rfl, rfl, trivial⟩ rfl
    ·refine TL.alloc hF rfl (fun b6 => ?_)
     refine TL.finK ⟨⟨_, rfl, _, _, [(4, _, none)], rfl, rfl, ⟨⟨rfl, by kernel_rfl⟩, trivial⟩, fun ext => TL.load hF rfl (own_mem (cs := #[ptr lk]) (e := 83) (fz := (0, 0)) (by simp) rfl) rfl TL.fin⟩, ⟨_, rfl, _, _, [(24, _, some 3)], rfl, rfl, ⟨⟨rfl, rfl, rfl⟩, trivial⟩, fun ext => TL.load hF rfl (own_mem (cs := (rkV ⟨a2, qs.length, c2, 0, 0, 0, 0, lk, nb, bb, 0, 0⟩).toArray) (e := 86) (fz := (0, 0)) (by simp) rfl) rfl TL.fin⟩, ⟨_, rfl, _, _, [(4, _, none)], rfl, rfl, ⟨⟨rfl, by kernel_rfl⟩, trivial⟩, fun ext => TL.load hF rfl (own_mem (cs := #[ptr lk]) (e := 83) (fz := (0, 0)) (by simp) rfl) rfl TL.fin⟩, ⟨_, rfl, _, _, [(31, _, some 10)], rfl, rfl, ⟨⟨rfl, rfl, rfl⟩, trivial⟩, fun ext => TL.load hF rfl (own_mem (cs := (rkV ⟨a2, qs.length, c2, 0, 0, 0, 0, lk, nb, bb, 0, 0⟩).toArray) (e := 86) (fz := (0, 0)) (by simp) rfl) rfl TL.fin⟩, trivial⟩ ?_
     refine DH.k2 (by kernel_rfl) (by kernel_rfl) (by kernel_rfl) (by kernel_rfl) (HBK.mk (h := 6) [7, 11] [(26, _, some 5)] rfl rfl rfl ⟨⟨rfl, rfl, rfl⟩, trivial⟩ (by kernel_rfl) (fun ext => ?_)) (HBK.mk (h := 13) [0, 4] [(33, _, some 12)] rfl rfl rfl ⟨⟨rfl, rfl, rfl⟩, trivial⟩ (by kernel_rfl) (fun ext => ?_))
     ·refine TL.makeSlice hF (k := qs.length) rfl rfl rfl (by omega) (by omega) rfl (fun b27 => ?_)
      rw [rowC_false]
      refine TL.finK ⟨⟨_, rfl, _, _, [(4, _, none)], rfl, rfl, ⟨⟨rfl, by kernel_rfl⟩, trivial⟩, fun ext => TL.load hF rfl (own_mem (cs := #[ptr lk]) (e := 83) (fz := (0, 0)) (by simp) rfl) rfl TL.fin⟩, ⟨_, rfl, _, _, [(31, _, some 10)], rfl, rfl, ⟨⟨rfl, rfl, rfl⟩, trivial⟩, fun ext => TL.load hF rfl (own_mem (cs := (rkV ⟨a2, qs.length, c2, 0, 0, 0, 0, lk, nb, bb, 0, 0⟩).toArray) (e := 86) (fz := (0, 0)) (by simp) rfl) rfl TL.fin⟩, trivial⟩ ?_
      refine DH.k2 (by kernel_rfl) (by kernel_rfl) (by kernel_rfl) (by kernel_rfl) (HBK.mk (h := 13) [] [(33, _, some 12)] rfl rfl rfl ⟨⟨rfl, rfl, rfl⟩, trivial⟩ (by kernel_rfl) (fun ext => ?_)) (HBK.mk (h := 16) [7, 11] [(5, _, some 14), (27, _, some 6)] rfl rfl rfl ⟨⟨rfl, rfl, rfl⟩, ⟨rfl, rfl, rfl⟩, trivial⟩ (by kernel_rfl) (fun ext => ?_))
      ·refine TL.makeSlice hF (k := qs.length) rfl rfl rfl (by omega) (by omega) rfl (fun b34 => ?_)
       rw [rowC_false]
       refine TL.finK trivial ?_
       refine DH.k1 (by kernel_rfl) (by kernel_rfl) (by kernel_rfl) (by kernel_rfl) (HBK.mk (h := 16) [] [(5, _, some 14), (27, _, some 6)] rfl rfl rfl ⟨⟨rfl, rfl, rfl⟩, ⟨rfl, rfl, rfl⟩, trivial⟩ (by kernel_rfl) (fun ext => ?_))
       refine TL.storeI hF 3 rfl rfl rfl rfl (by decide) ?_
       refine TL.finKN trivial ?_
       refine DH.done [(34, _), (27, _), (6, _), (5, _), (33, _), (32, _), (31, _), (30, _), (29, _), (28, _), (26, _), (25, _), (24, _), (23, _), (22, _), (21, _)] [_] (by kernel_rfl) (by kernel_rfl) (by kernel_rfl) (by kernel_rfl) rfl rfl ?_
       refine TL.storeI hF 2 rfl rfl rfl rfl (by decide) ?_
       refine TL.nil ?_
       refine TQ.pick [3, 4, 2, 1, 0] [_, _, _, _, _] rfl rfl rfl ?_
       exact TQ.cut (b4, b5, b6, b27, b34) trivial ⟨rfl, rfl, rfl, rfl, rfl, trivial⟩ rfl
      ·refine TL.storeI hF 2 rfl rfl rfl rfl (by decide) ?_
       refine TL.finKN ⟨⟨_, rfl, _, _, [(4, _, none)], rfl, rfl, ⟨⟨rfl, by kernel_rfl⟩, trivial⟩, fun ext => TL.load hF rfl (own_mem (cs := #[ptr lk]) (e := 83) (fz := (0, 0)) (by simp) rfl) rfl TL.fin⟩, ⟨_, rfl, _, _, [(31, _, some 10)], rfl, rfl, ⟨⟨rfl, rfl, rfl⟩, trivial⟩, fun ext => TL.load hF rfl (own_mem (cs := (rkV ⟨a2, qs.length, c2, 0, 0, 0, 0, lk, nb, bb, 0, 0⟩).toArray) (e := 86) (fz := (0, 0)) (by simp) rfl) rfl TL.fin⟩, trivial⟩ ?_
       refine DH.heavy 13 [(33, _, some 12)] (by kernel_rfl) (by kernel_rfl) (by kernel_rfl) (by kernel_rfl) rfl rfl rfl rfl ⟨⟨rfl, rfl, rfl⟩, trivial⟩ (by kernel_rfl) (fun ext => ?_)
       refine TL.makeSlice hF (k := qs.length) rfl rfl rfl (by omega) (by omega) rfl (fun b34 => ?_)
       rw [rowC_false]
       refine TL.finD ?_
       refine DH.done [(34, _), (27, _), (6, _), (5, _), (33, _), (32, _), (31, _), (30, _), (29, _), (28, _), (26, _), (25, _), (24, _), (23, _), (22, _), (21, _)] [_] (by kernel_rfl) (by kernel_rfl) (by kernel_rfl) (by kernel_rfl) rfl rfl ?_
       refine TL.storeI hF 2 rfl rfl rfl rfl (by decide) ?_
       refine TL.nil ?_
       refine TQ.pick [3, 4, 2, 1, 0] [_, _, _, _, _] rfl rfl rfl ?_
       exact TQ.cut (b4, b5, b6, b27, b34) trivial ⟨rfl, rfl, rfl, rfl, rfl, trivial⟩ rfl
     ·refine TL.makeSlice hF (k := qs.length) rfl rfl rfl (by omega) (by omega) rfl (fun b34 => ?_)
      rw [rowC_false]
      refine TL.finK ⟨⟨_, rfl, _, _, [(4, _, none)], rfl, rfl, ⟨⟨rfl, by kernel_rfl⟩, trivial⟩, fun ext => TL.load hF rfl (own_mem (cs := #[ptr lk]) (e := 83) (fz := (0, 0)) (by simp) rfl) rfl TL.fin⟩, ⟨_, rfl, _, _, [(24, _, some 3)], rfl, rfl, ⟨⟨rfl, rfl, rfl⟩, trivial⟩, fun ext => TL.load hF rfl (own_mem (cs := (rkV ⟨a2, qs.length, c2, 0, 0, 0, 0, lk, nb, bb, 0, 0⟩).toArray) (e := 86) (fz := (0, 0)) (by simp) rfl) rfl TL.fin⟩, trivial⟩ ?_
      refine DH.heavy 6 [(26, _, some 5)] (by kernel_rfl) (by kernel_rfl) (by kernel_rfl) (by kernel_rfl) rfl rfl rfl rfl ⟨⟨rfl, rfl, rfl⟩, trivial⟩ (by kernel_rfl) (fun ext => ?_)
      refine TL.makeSlice hF (k := qs.length) rfl rfl rfl (by omega) (by omega) rfl (fun b27 => ?_)
      rw [rowC_false]
      refine TL.finD ?_
      refine DH.k1 (by kernel_rfl) (by kernel_rfl) (by kernel_rfl) (by kernel_rfl) (HBK.mk (h := 16) [] [(5, _, some 14), (27, _, some 6)] rfl rfl rfl ⟨⟨rfl, rfl, rfl⟩, ⟨rfl, rfl, rfl⟩, trivial⟩ (by kernel_rfl) (fun ext => ?_))
      refine TL.storeI hF 3 rfl rfl rfl rfl (by decide) ?_
      refine TL.finKN trivial ?_
      refine DH.done [(27, _), (34, _), (6, _), (5, _), (33, _), (32, _), (31, _), (30, _), (29, _), (28, _), (26, _), (25, _), (24, _), (23, _), (22, _), (21, _)] [_] (by kernel_rfl) (by kernel_rfl) (by kernel_rfl) (by kernel_rfl) rfl rfl ?_
      refine TL.storeI hF 2 rfl rfl rfl rfl (by decide) ?_
      refine TL.nil ?_
      refine TQ.pick [3, 4, 2, 0, 1] [_, _, _, _, _] rfl rfl rfl ?_
      exact TQ.cut (b4, b5, b6, b27, b34) trivial ⟨rfl, rfl, rfl, rfl, rfl, trivial⟩ rfl
   ·refine TL.alloc hF rfl (fun b6 => ?_)
    refine TL.finK ⟨⟨_, rfl, _, _, [(4, _, none)], rfl, rfl, ⟨⟨rfl, by kernel_rfl⟩, trivial⟩, fun ext => TL.load hF rfl (own_mem (cs := #[ptr lk]) (e := 83) (fz := (0, 0)) (by simp) rfl) rfl TL.fin⟩, ⟨_, rfl, _, _, [(24, _, some 3)], rfl, rfl, ⟨⟨rfl, rfl, rfl⟩, trivial⟩, fun ext => TL.load hF rfl (own_mem (cs := (rkV ⟨a2, qs.length, c2, 0, 0, 0, 0, lk, nb, bb, 0, 0⟩).toArray) (e := 86) (fz := (0, 0)) (by simp) rfl) rfl TL.fin⟩, ⟨_, rfl, _, _, [(4, _, none)], rfl, rfl, ⟨⟨rfl, by kernel_rfl⟩, trivial⟩, fun ext => TL.load hF rfl (own_mem (cs := #[ptr lk]) (e := 83) (fz := (0, 0)) (by simp) rfl) rfl TL.fin⟩, ⟨_, rfl, _, _, [(31, _, some 10)], rfl, rfl, ⟨⟨rfl, rfl, rfl⟩, trivial⟩, fun ext => TL.load hF rfl (own_mem (cs := (rkV ⟨a2, qs.length, c2, 0, 0, 0, 0, lk, nb, bb, 0, 0⟩).toArray) (e := 86) (fz := (0, 0)) (by simp) rfl) rfl TL.fin⟩, trivial⟩ ?_
    refine DH.k3 (by kernel_rfl) (by kernel_rfl) (by kernel_rfl) (by kernel_rfl) (HBK.mk (h := 6) [7, 11] [(26, _, some 5)] rfl rfl rfl ⟨⟨rfl, rfl, rfl⟩, trivial⟩ (by kernel_rfl) (fun ext => ?_)) (HBK.mk (h := 13) [0, 4] [(33, _, some 12)] rfl rfl rfl ⟨⟨rfl, rfl, rfl⟩, trivial⟩ (by kernel_rfl) (fun ext => ?_)) (HBK.mk (h := 14) [0, 4, 7, 11] [] rfl rfl rfl trivial (by kernel_rfl) (fun ext => ?_))
    ·refine TL.makeSlice hF (k := qs.length) rfl rfl rfl (by omega) (by omega) rfl (fun b27 => ?_)
     rw [rowC_false]
     refine TL.finK ⟨⟨_, rfl, _, _, [(4, _, none)], rfl, rfl, ⟨⟨rfl, by kernel_rfl⟩, trivial⟩, fun ext => TL.load hF rfl (own_mem (cs := #[ptr lk]) (e := 83) (fz := (0, 0)) (by simp) rfl) rfl TL.fin⟩, ⟨_, rfl, _, _, [(31, _, some 10)], rfl, rfl, ⟨⟨rfl, rfl, rfl⟩, trivial⟩, fun ext => TL.load hF rfl (own_mem (cs := (rkV ⟨a2, qs.length, c2, 0, 0, 0, 0, lk, nb, bb, 0, 0⟩).toArray) (e := 86) (fz := (0, 0)) (by simp) rfl) rfl TL.fin⟩, trivial⟩ ?_
     refine DH.k2 (by kernel_rfl) (by kernel_rfl) (by kernel_rfl) (by kernel_rfl) (HBK.mk (h := 13) [] [(33, _, some 12)] rfl rfl rfl ⟨⟨rfl, rfl, rfl⟩, trivial⟩ (by kernel_rfl) (fun ext => ?_)) (HBK.mk (h := 14) [7, 11] [] rfl rfl rfl trivial (by kernel_rfl) (fun ext => ?_))
     ·refine TL.makeSlice hF (k := qs.length) rfl rfl rfl (by omega) (by omega) rfl (fun b34 => ?_)
      rw [rowC_false]
      refine TL.finK trivial ?_
      refine DH.heavy 14 [] (by kernel_rfl) (by kernel_rfl) (by kernel_rfl) (by kernel_rfl) rfl rfl rfl rfl trivial (by kernel_rfl) (fun ext => ?_)
      refine TL.alloc hF rfl (fun b5 => ?_)
      refine TL.finD ?_
      refine DH.k1 (by kernel_rfl) (by kernel_rfl) (by kernel_rfl) (by kernel_rfl) (HBK.mk (h := 16) [] [(5, _, some 14), (27, _, some 6)] rfl rfl rfl ⟨⟨rfl, rfl, rfl⟩, ⟨rfl, rfl, rfl⟩, trivial⟩ (by kernel_rfl) (fun ext => ?_))
      refine TL.storeI hF 0 rfl rfl rfl rfl (by decide) ?_
      refine TL.finKN trivial ?_
      refine DH.done [(5, _), (34, _), (27, _), (6, _), (33, _), (32, _), (31, _), (30, _), (29, _), (28, _), (26, _), (25, _), (24, _), (23, _), (22, _), (21, _)] [_] (by kernel_rfl) (by kernel_rfl) (by kernel_rfl) (by kernel_rfl) rfl rfl ?_
      refine TL.storeI hF 3 rfl rfl rfl rfl (by decide) ?_
      refine TL.nil ?_
      refine TQ.pick [0, 4, 3, 2, 1] [_, _, _, _, _] rfl rfl rfl ?_
      exact TQ.cut (b4, b5, b6, b27, b34) trivial ⟨rfl, rfl, rfl, rfl, rfl, trivial⟩ rfl
     ·refine TL.alloc hF rfl (fun b5 => ?_)
      refine TL.finK ⟨⟨_, rfl, _, _, [(4, _, none)], rfl, rfl, ⟨⟨rfl, by kernel_rfl⟩, trivial⟩, fun ext => TL.load hF rfl (own_mem (cs := #[ptr lk]) (e := 83) (fz := (0, 0)) (by simp) rfl) rfl TL.fin⟩, ⟨_, rfl, _, _, [(31, _, some 10)], rfl, rfl, ⟨⟨rfl, rfl, rfl⟩, trivial⟩, fun ext => TL.load hF rfl (own_mem (cs := (rkV ⟨a2, qs.length, c2, 0, 0, 0, 0, lk, nb, bb, 0, 0⟩).toArray) (e := 86) (fz := (0, 0)) (by simp) rfl) rfl TL.fin⟩, trivial⟩ ?_
      refine DH.k2 (by kernel_rfl) (by kernel_rfl) (by kernel_rfl) (by kernel_rfl) (HBK.mk (h := 13) [] [(33, _, some 12)] rfl rfl rfl ⟨⟨rfl, rfl, rfl⟩, trivial⟩ (by kernel_rfl) (fun ext => ?_)) (HBK.mk (h := 16) [7, 11] [(5, _, some 14), (27, _, some 6)] rfl rfl rfl ⟨⟨rfl, rfl, rfl⟩, ⟨rfl, rfl, rfl⟩, trivial⟩ (by kernel_rfl) (fun ext => ?_))
      ·refine TL.makeSlice hF (k := qs.length) rfl rfl rfl (by omega) (by omega) rfl (fun b34 => ?_)
       rw [rowC_false]
       refine TL.finK trivial ?_
       refine DH.k1 (by kernel_rfl) (by kernel_rfl) (by kernel_rfl) (by kernel_rfl) (HBK.mk (h := 16) [] [(5, _, some 14), (27, _, some 6)] rfl rfl rfl ⟨⟨rfl, rfl, rfl⟩, ⟨rfl, rfl, rfl⟩, trivial⟩ (by kernel_rfl) (fun ext => ?_))
       refine TL.storeI hF 1 rfl rfl rfl rfl (by decide) ?_
       refine TL.finKN trivial ?_
       refine DH.done [(34, _), (5, _), (27, _), (6, _), (33, _), (32, _), (31, _), (30, _), (29, _), (28, _), (26, _), (25, _), (24, _), (23, _), (22, _), (21, _)] [_] (by kernel_rfl) (by kernel_rfl) (by kernel_rfl) (by kernel_rfl) rfl rfl ?_
       refine TL.storeI hF 3 rfl rfl rfl rfl (by decide) ?_
       refine TL.nil ?_
       refine TQ.pick [1, 4, 3, 2, 0] [_, _, _, _, _] rfl rfl rfl ?_
       exact TQ.cut (b4, b5, b6, b27, b34) trivial ⟨rfl, rfl, rfl, rfl, rfl, trivial⟩ rfl
      ·refine TL.storeI hF 0 rfl rfl rfl rfl (by decide) ?_
       refine TL.finKN ⟨⟨_, rfl, _, _, [(4, _, none)], rfl, rfl, ⟨⟨rfl, by kernel_rfl⟩, trivial⟩, fun ext => TL.load hF rfl (own_mem (cs := #[ptr lk]) (e := 83) (fz := (0, 0)) (by simp) rfl) rfl TL.fin⟩, ⟨_, rfl, _, _, [(31, _, some 10)], rfl, rfl, ⟨⟨rfl, rfl, rfl⟩, trivial⟩, fun ext => TL.load hF rfl (own_mem (cs := (rkV ⟨a2, qs.length, c2, 0, 0, 0, 0, lk, nb, bb, 0, 0⟩).toArray) (e := 86) (fz := (0, 0)) (by simp) rfl) rfl TL.fin⟩, trivial⟩ ?_
       refine DH.heavy 13 [(33, _, some 12)] (by kernel_rfl) (by kernel_rfl) (by kernel_rfl) (by kernel_rfl) rfl rfl rfl rfl ⟨⟨rfl, rfl, rfl⟩, trivial⟩ (by kernel_rfl) (fun ext => ?_)
       refine TL.makeSlice hF (k := qs.length) rfl rfl rfl (by omega) (by omega) rfl (fun b34 => ?_)
       rw [rowC_false]
       refine TL.finD ?_
       refine DH.done [(34, _), (5, _), (27, _), (6, _), (33, _), (32, _), (31, _), (30, _), (29, _), (28, _), (26, _), (25, _), (24, _), (23, _), (22, _), (21, _)] [_] (by kernel_rfl) (by kernel_rfl) (by kernel_rfl) (by kernel_rfl) rfl rfl ?_
       refine TL.storeI hF 3 rfl rfl rfl rfl (by decide) ?_
       refine TL.nil ?_
       refine TQ.pick [1, 4, 3, 2, 0] [_, _, _, _, _] rfl rfl rfl ?_
       exact TQ.cut (b4, b5, b6, b27, b34) trivial ⟨rfl, rfl, rfl, rfl, rfl, trivial⟩ rfl
    ·refine TL.makeSlice hF (k := qs.length) rfl rfl rfl (by omega) (by omega) rfl (fun b34 => ?_)
     rw [rowC_false]
     refine TL.finK ⟨⟨_, rfl, _, _, [(4, _, none)], rfl, rfl, ⟨⟨rfl, by kernel_rfl⟩, trivial⟩, fun ext => TL.load hF rfl (own_mem (cs := #[ptr lk]) (e := 83) (fz := (0, 0)) (by simp) rfl) rfl TL.fin⟩, ⟨_, rfl, _, _, [(24, _, some 3)], rfl, rfl, ⟨⟨rfl, rfl, rfl⟩, trivial⟩, fun ext => TL.load hF rfl (own_mem (cs := (rkV ⟨a2, qs.length, c2, 0, 0, 0, 0, lk, nb, bb, 0, 0⟩).toArray) (e := 86) (fz := (0, 0)) (by simp) rfl) rfl TL.fin⟩, trivial⟩ ?_
     refine DH.k2 (by kernel_rfl) (by kernel_rfl) (by kernel_rfl) (by kernel_rfl) (HBK.mk (h := 6) [] [(26, _, some 5)] rfl rfl rfl ⟨⟨rfl, rfl, rfl⟩, trivial⟩ (by kernel_rfl) (fun ext => ?_)) (HBK.mk (h := 14) [0, 4] [] rfl rfl rfl trivial (by kernel_rfl) (fun ext => ?_))
     ·refine TL.makeSlice hF (k := qs.length) rfl rfl rfl (by omega) (by omega) rfl (fun b27 => ?_)
      rw [rowC_false]
      refine TL.finK trivial ?_
      refine DH.heavy 14 [] (by kernel_rfl) (by kernel_rfl) (by kernel_rfl) (by kernel_rfl) rfl rfl rfl rfl trivial (by kernel_rfl) (fun ext => ?_)
      refine TL.alloc hF rfl (fun b5 => ?_)
      refine TL.finD ?_
      refine DH.k1 (by kernel_rfl) (by kernel_rfl) (by kernel_rfl) (by kernel_rfl) (HBK.mk (h := 16) [] [(5, _, some 14), (27, _, some 6)] rfl rfl rfl ⟨⟨rfl, rfl, rfl⟩, ⟨rfl, rfl, rfl⟩, trivial⟩ (by kernel_rfl) (fun ext => ?_))
      refine TL.storeI hF 0 rfl rfl rfl rfl (by decide) ?_
      refine TL.finKN trivial ?_
      refine DH.done [(5, _), (27, _), (34, _), (6, _), (33, _), (32, _), (31, _), (30, _), (29, _), (28, _), (26, _), (25, _), (24, _), (23, _), (22, _), (21, _)] [_] (by kernel_rfl) (by kernel_rfl) (by kernel_rfl) (by kernel_rfl) rfl rfl ?_
      refine TL.storeI hF 3 rfl rfl rfl rfl (by decide) ?_
      refine TL.nil ?_
      refine TQ.pick [0, 4, 3, 1, 2] [_, _, _, _, _] rfl rfl rfl ?_
      exact TQ.cut (b4, b5, b6, b27, b34) trivial ⟨rfl, rfl, rfl, rfl, rfl, trivial⟩ rfl
     ·refine TL.alloc hF rfl (fun b5 => ?_)
      refine TL.finK ⟨⟨_, rfl, _, _, [(4, _, none)], rfl, rfl, ⟨⟨rfl, by kernel_rfl⟩, trivial⟩, fun ext => TL.load hF rfl (own_mem (cs := #[ptr lk]) (e := 83) (fz := (0, 0)) (by simp) rfl) rfl TL.fin⟩, ⟨_, rfl, _, _, [(24, _, some 3)], rfl, rfl, ⟨⟨rfl, rfl, rfl⟩, trivial⟩, fun ext => TL.load hF rfl (own_mem (cs := (rkV ⟨a2, qs.length, c2, 0, 0, 0, 0, lk, nb, bb, 0, 0⟩).toArray) (e := 86) (fz := (0, 0)) (by simp) rfl) rfl TL.fin⟩, trivial⟩ ?_
      refine DH.heavy 6 [(26, _, some 5)] (by kernel_rfl) (by kernel_rfl) (by kernel_rfl) (by kernel_rfl) rfl rfl rfl rfl ⟨⟨rfl, rfl, rfl⟩, trivial⟩ (by kernel_rfl) (fun ext => ?_)
      refine TL.makeSlice hF (k := qs.length) rfl rfl rfl (by omega) (by omega) rfl (fun b27 => ?_)
      rw [rowC_false]
      refine TL.finD ?_
      refine DH.k1 (by kernel_rfl) (by kernel_rfl) (by kernel_rfl) (by kernel_rfl) (HBK.mk (h := 16) [] [(5, _, some 14), (27, _, some 6)] rfl rfl rfl ⟨⟨rfl, rfl, rfl⟩, ⟨rfl, rfl, rfl⟩, trivial⟩ (by kernel_rfl) (fun ext => ?_))
      refine TL.storeI hF 1 rfl rfl rfl rfl (by decide) ?_
      refine TL.finKN trivial ?_
      refine DH.done [(27, _), (5, _), (34, _), (6, _), (33, _), (32, _), (31, _), (30, _), (29, _), (28, _), (26, _), (25, _), (24, _), (23, _), (22, _), (21, _)] [_] (by kernel_rfl) (by kernel_rfl) (by kernel_rfl) (by kernel_rfl) rfl rfl ?_
      refine TL.storeI hF 3 rfl rfl rfl rfl (by decide) ?_
      refine TL.nil ?_
      refine TQ.pick [1, 4, 3, 0, 2] [_, _, _, _, _] rfl rfl rfl ?_
      exact TQ.cut (b4, b5, b6, b27, b34) trivial ⟨rfl, rfl, rfl, rfl, rfl, trivial⟩ rfl
    ·refine TL.alloc hF rfl (fun b5 => ?_)
     refine TL.finK ⟨⟨_, rfl, _, _, [(4, _, none)], rfl, rfl, ⟨⟨rfl, by kernel_rfl⟩, trivial⟩, fun ext => TL.load hF rfl (own_mem (cs := #[ptr lk]) (e := 83) (fz := (0, 0)) (by simp) rfl) rfl TL.fin⟩, ⟨_, rfl, _, _, [(24, _, some 3)], rfl, rfl, ⟨⟨rfl, rfl, rfl⟩, trivial⟩, fun ext => TL.load hF rfl (own_mem (cs := (rkV ⟨a2, qs.length, c2, 0, 0, 0, 0, lk, nb, bb, 0, 0⟩).toArray) (e := 86) (fz := (0, 0)) (by simp) rfl) rfl TL.fin⟩, ⟨_, rfl, _, _, [(4, _, none)], rfl, rfl, ⟨⟨rfl, by kernel_rfl⟩, trivial⟩, fun ext => TL.load hF rfl (own_mem (cs := #[ptr lk]) (e := 83) (fz := (0, 0)) (by simp) rfl) rfl TL.fin⟩, ⟨_, rfl, _, _, [(31, _, some 10)], rfl, rfl, ⟨⟨rfl, rfl, rfl⟩, trivial⟩, fun ext => TL.load hF rfl (own_mem (cs := (rkV ⟨a2, qs.length, c2, 0, 0, 0, 0, lk, nb, bb, 0, 0⟩).toArray) (e := 86) (fz := (0, 0)) (by simp) rfl) rfl TL.fin⟩, trivial⟩ ?_
     refine DH.k2 (by kernel_rfl) (by kernel_rfl) (by kernel_rfl) (by kernel_rfl) (HBK.mk (h := 6) [7, 11] [(26, _, some 5)] rfl rfl rfl ⟨⟨rfl, rfl, rfl⟩, trivial⟩ (by kernel_rfl) (fun ext => ?_)) (HBK.mk (h := 13) [0, 4] [(33, _, some 12)] rfl rfl rfl ⟨⟨rfl, rfl, rfl⟩, trivial⟩ (by kernel_rfl) (fun ext => ?_))
     ·refine TL.makeSlice hF (k := qs.length) rfl rfl rfl (by omega) (by omega) rfl (fun b27 => ?_)
      rw [rowC_false]
      refine TL.finK ⟨⟨_, rfl, _, _, [(4, _, none)], rfl, rfl, ⟨⟨rfl, by kernel_rfl⟩, trivial⟩, fun ext => TL.load hF rfl (own_mem (cs := #[ptr lk]) (e := 83) (fz := (0, 0)) (by simp) rfl) rfl TL.fin⟩, ⟨_, rfl, _, _, [(31, _, some 10)], rfl, rfl, ⟨⟨rfl, rfl, rfl⟩, trivial⟩, fun ext => TL.load hF rfl (own_mem (cs := (rkV ⟨a2, qs.length, c2, 0, 0, 0, 0, lk, nb, bb, 0, 0⟩).toArray) (e := 86) (fz := (0, 0)) (by simp) rfl) rfl TL.fin⟩, trivial⟩ ?_
      refine DH.k2 (by kernel_rfl) (by kernel_rfl) (by kernel_rfl) (by kernel_rfl) (HBK.mk (h := 13) [] [(33, _, some 12)] rfl rfl rfl ⟨⟨rfl, rfl, rfl⟩, trivial⟩ (by kernel_rfl) (fun ext => ?_)) (HBK.mk (h := 16) [7, 11] [(5, _, some 14), (27, _, some 6)] rfl rfl rfl ⟨⟨rfl, rfl, rfl⟩, ⟨rfl, rfl, rfl⟩, trivial⟩ (by kernel_rfl) (fun ext => ?_))
      ·refine TL.makeSlice hF (k := qs.length) rfl rfl rfl (by omega) (by omega) rfl (fun b34 => ?_)
       rw [rowC_false]
       refine TL.finK trivial ?_
       refine DH.k1 (by kernel_rfl) (by kernel_rfl) (by kernel_rfl) (by kernel_rfl) (HBK.mk (h := 16) [] [(5, _, some 14), (27, _, some 6)] rfl rfl rfl ⟨⟨rfl, rfl, rfl⟩, ⟨rfl, rfl, rfl⟩, trivial⟩ (by kernel_rfl) (fun ext => ?_))
       refine TL.storeI hF 2 rfl rfl rfl rfl (by decide) ?_
       refine TL.finKN trivial ?_
       refine DH.done [(34, _), (27, _), (5, _), (6, _), (33, _), (32, _), (31, _), (30, _), (29, _), (28, _), (26, _), (25, _), (24, _), (23, _), (22, _), (21, _)] [_] (by kernel_rfl) (by kernel_rfl) (by kernel_rfl) (by kernel_rfl) rfl rfl ?_
       refine TL.storeI hF 3 rfl rfl rfl rfl (by decide) ?_
       refine TL.nil ?_
       refine TQ.pick [2, 4, 3, 1, 0] [_, _, _, _, _] rfl rfl rfl ?_
       exact TQ.cut (b4, b5, b6, b27, b34) trivial ⟨rfl, rfl, rfl, rfl, rfl, trivial⟩ rfl
      ·refine TL.storeI hF 1 rfl rfl rfl rfl (by decide) ?_
       refine TL.finKN ⟨⟨_, rfl, _, _, [(4, _, none)], rfl, rfl, ⟨⟨rfl, by kernel_rfl⟩, trivial⟩, fun ext => TL.load hF rfl (own_mem (cs := #[ptr lk]) (e := 83) (fz := (0, 0)) (by simp) rfl) rfl TL.fin⟩, ⟨_, rfl, _, _, [(31, _, some 10)], rfl, rfl, ⟨⟨rfl, rfl, rfl⟩, trivial⟩, fun ext => TL.load hF rfl (own_mem (cs := (rkV ⟨a2, qs.length, c2, 0, 0, 0, 0, lk, nb, bb, 0, 0⟩).toArray) (e := 86) (fz := (0, 0)) (by simp) rfl) rfl TL.fin⟩, trivial⟩ ?_
       refine DH.heavy 13 [(33, _, some 12)] (by kernel_rfl) (by kernel_rfl) (by kernel_rfl) (by kernel_rfl) rfl rfl rfl rfl ⟨⟨rfl, rfl, rfl⟩, trivial⟩ (by kernel_rfl) (fun ext => ?_)
       refine TL.makeSlice hF (k := qs.length) rfl rfl rfl (by omega) (by omega) rfl (fun b34 => ?_)
       rw [rowC_false]
       refine TL.finD ?_
       refine DH.done [(34, _), (27, _), (5, _), (6, _), (33, _), (32, _), (31, _), (30, _), (29, _), (28, _), (26, _), (25, _), (24, _), (23, _), (22, _), (21, _)] [_] (by kernel_rfl) (by kernel_rfl) (by kernel_rfl) (by kernel_rfl) rfl rfl ?_
       refine TL.storeI hF 3 rfl rfl rfl rfl (by decide) ?_
       refine TL.nil ?_
       refine TQ.pick [2, 4, 3, 1, 0] [_, _, _, _, _] rfl rfl rfl ?_
       exact TQ.cut (b4, b5, b6, b27, b34) trivial ⟨rfl, rfl, rfl, rfl, rfl, trivial⟩ rfl
     ·refine TL.makeSlice hF (k := qs.length) rfl rfl rfl (by omega) (by omega) rfl (fun b34 => ?_)
      rw [rowC_false]
      refine TL.finK ⟨⟨_, rfl, _, _, [(4, _, none)], rfl, rfl, ⟨⟨rfl, by kernel_rfl⟩, trivial⟩, fun ext => TL.load hF rfl (own_mem (cs := #[ptr lk]) (e := 83) (fz := (0, 0)) (by simp) rfl) rfl TL.fin⟩, ⟨_, rfl, _, _, [(24, _, some 3)], rfl, rfl, ⟨⟨rfl, rfl, rfl⟩, trivial⟩, fun ext => TL.load hF rfl (own_mem (cs := (rkV ⟨a2, qs.length, c2, 0, 0, 0, 0, lk, nb, bb, 0, 0⟩).toArray) (e := 86) (fz := (0, 0)) (by simp) rfl) rfl TL.fin⟩, trivial⟩ ?_
      refine DH.heavy 6 [(26, _, some 5)] (by kernel_rfl) (by kernel_rfl) (by kernel_rfl) (by kernel_rfl) rfl rfl rfl rfl ⟨⟨rfl, rfl, rfl⟩, trivial⟩ (by kernel_rfl) (fun ext => ?_)
      refine TL.makeSlice hF (k := qs.length) rfl rfl rfl (by omega) (by omega) rfl (fun b27 => ?_)
      rw [rowC_false]
      refine TL.finD ?_
      refine DH.k1 (by kernel_rfl) (by kernel_rfl) (by kernel_rfl) (by kernel_rfl) (HBK.mk (h := 16) [] [(5, _, some 14), (27, _, some 6)] rfl rfl rfl ⟨⟨rfl, rfl, rfl⟩, ⟨rfl, rfl, rfl⟩, trivial⟩ (by kernel_rfl) (fun ext => ?_))
      refine TL.storeI hF 2 rfl rfl rfl rfl (by decide) ?_
      refine TL.finKN trivial ?_
      refine DH.done [(27, _), (34, _), (5, _), (6, _), (33, _), (32, _), (31, _), (30, _), (29, _), (28, _), (26, _), (25, _), (24, _), (23, _), (22, _), (21, _)] [_] (by kernel_rfl) (by kernel_rfl) (by kernel_rfl) (by kernel_rfl) rfl rfl ?_
      refine TL.storeI hF 3 rfl rfl rfl rfl (by decide) ?_
      refine TL.nil ?_
      refine TQ.pick [2, 4, 3, 0, 1] [_, _, _, _, _] rfl rfl rfl ?_
      exact TQ.cut (b4, b5, b6, b27, b34) trivial ⟨rfl, rfl, rfl, rfl, rfl, trivial⟩ rfl
  ·rintro ⟨h4, h5, h6, r5, r6⟩ _
   refine T.seq ?_
   refine T.region ?_
   refine TL.alloc hF rfl (fun b7 => ?_)
   refine TL.nil ?_
   refine TQ.then_n ?_
   refine T.seq ?_
   refine T.region ?_
   refine TL.makeFunc hF rfl rfl rfl ?_
   refine TL.storeI hF 0 rfl rfl rfl rfl (by decide) ?_
   refine TL.nil ?_
   refine TQ.then_n ?_
   refine T.seq ?_
   refine T.seq ?_
   refine T.region ?_
   refine TL.load hF rfl (own_mem (cs := #[ptr lk]) (e := 83) (fz := (0, 0)) (by simp) rfl) rfl ?_
   refine TL.nilCheck hF rfl rfl ?_
   refine TL.fieldAddr hF rfl rfl ?_
   refine TL.load hF rfl (own_mem (cs := (rkV ⟨a2, qs.length, c2, 0, 0, 0, 0, lk, nb, bb, 0, 0⟩).toArray) (e := 86) (fz := (0, 0)) (by simp) rfl) rfl ?_
   refine TL.len hF rfl rfl ?_
   refine TL.move hF rfl rfl ?_
   refine TL.nil ?_
   refine TQ.then_n ?_
   refine T.block ?_
   refine T.pick [1, 2, 3, 0, 6, 8, 4, 5, 7] [_, _, _, _, _, _, _, _, _] rfl rfl rfl ?_
   refine T.loop (ι := Nat) (fun k => k ≤ qs.length) (fun k => [(2, .slice none 0 0), (3, ptr b3), (4, ptr h4), (5, ptr h5), (6, ptr h6), (7, ptr b7), (39, .slice (some ⟨nb, 0, none⟩) qs.length qs.length), (40, .int .i64 (qs.length : Int)), (41, .int .i64 (k : Int))]) (fun k => coreR ⟨a2, qs.length, c2, h5, h4, h6, b7, lk, nb, bb, r5, r6⟩ (linkM (tx qs)).mate (rchN (EP (tx qs)) qs.length (linkM (tx qs)) k) (iseg nb qs.length (linkM (tx qs)).nx :: [(b18, Obj.cells #[gc (a, ps, c)] 32 (0, 0))] :: [(b15, Obj.cells #[gc (a, ps, c)] 32 (0, 0))] :: [(b3, Obj.cells #[.int .i64 0] ERR (0, 0))] :: η)) (fun k => qs.length - k) 0 (Nat.zero_le _) ⟨rfl, rfl, rfl, rfl, rfl, rfl, rfl, rfl, rfl, trivial⟩ rfl ?_
   intro k hk
   refine T.seq ?_
   refine T.region ?_
   refine TL.bin hF rfl rfl rfl rfl ?_
   refine TL.nil ?_
   refine TQ.then_n ?_
   refine T.seq ?_
   first | refine T.cond_d rfl (fun ht42 => ?_) (fun ht42 => ?_) | refine T.cond _ rfl (fun ht42 => ?_) (fun ht42 => ?_)
   ·refine T.skip ?_
    refine TQ.then_n ?_
    refine T.seq ?_
    refine T.block ?_
    refine T.seq ?_
    refine T.region ?_
    refine TL.move hF rfl rfl ?_
    refine TL.indexAddr hF rfl rfl ⟨_, rfl, rfl⟩ (by omega) (by omega) rfl ?_
    refine TL.load hF rfl (iseg_at (f := (linkM (tx qs)).nx) (n := qs.length) (b := nb) (j := k) (by simp [coreR]) (by omega)) rfl ?_
    refine TL.assign hF rfl rfl ?_
    refine TL.assign hF rfl rfl ?_
    refine TL.nil ?_
    refine TQ.then_n ?_
    refine T.seq ?_
    refine T.region ?_
    refine TL.move hF rfl rfl ?_
    refine TL.bin hF rfl rfl rfl rfl ?_
    refine TL.nil ?_
    refine TQ.then_n ?_
    first | refine T.cond_d rfl (fun ht47 => ?_) (fun ht47 => ?_) | refine T.cond _ rfl (fun ht47 => ?_) (fun ht47 => ?_)
    ·refine T.region ?_
     refine TL.load hF rfl (At.own' (i := 3) rfl rfl) rfl ?_
     refine TL.move hF rfl rfl ?_
     have hkn : k < qs.length := by omega
     have hneg : (linkM (tx qs)).nx k < 0 := by omega
     have hs1 : (rchN (EP (tx qs)) qs.length (linkM (tx qs)) (k + 1)) = rch (EP (tx qs)) qs.length (linkM (tx qs)).mate (qs.length + 1) k (rchN (EP (tx qs)) qs.length (linkM (tx qs)) k) := by
      conv => lhs; unfold rchN
      rw [if_pos hneg]
     have hok1 : (rchN (EP (tx qs)) qs.length (linkM (tx qs)) (k + 1)).ok = true := rchN_ok (k := k + 1) (qs.length - (k + 1)) (by rw [show k + 1 + (qs.length - (k + 1)) = qs.length by omega]; exact hsf)
     rw [hs1] at hok1
     refine TL.call hF (reach_fn (q := ⟨a2, qs.length, c2, h5, h4, h6, b7, lk, nb, bb, r5, r6⟩) hq1 rfl (by omega) hwq hw4 hok.mate (qs.length + 1) (i := k) hkn (Nat.lt_succ_of_le (unt_le _ _)) hok1) rfl rfl ?_
     rintro _ _ rfl
     rw [← hs1]
     refine TL.nil ?_
     refine TQ.block_n ?_
     refine TQ.then_n ?_
     refine T.region ?_
     refine TL.add hF rfl rfl (by omega) (by omega) rfl ?_
     refine TL.move hF rfl rfl ?_
     refine TL.nil ?_
     refine TQ.round (k + 1) (by omega) (by omega) ⟨rfl, rfl, rfl, rfl, rfl, rfl, rfl, rfl, rfl, trivial⟩ rfl
    ·refine T.skip ?_
     refine TQ.block_n ?_
     refine TQ.then_n ?_
     refine T.region ?_
     refine TL.add hF rfl rfl (by omega) (by omega) rfl ?_
     refine TL.move hF rfl rfl ?_
     refine TL.nil ?_
     have hs1 : (rchN (EP (tx qs)) qs.length (linkM (tx qs)) (k + 1)) = (rchN (EP (tx qs)) qs.length (linkM (tx qs)) k) := by
      conv => lhs; unfold rchN
      rw [if_neg (by omega)]
     refine TQ.round (k + 1) (by omega) (by omega) ⟨rfl, rfl, rfl, rfl, rfl, rfl, rfl, rfl, rfl, trivial⟩ ?_
     rw [hs1]
   ·refine T.exit ?_
    refine TQ.then_x ?_
    refine TQ.then_x ?_
    refine TQ.block_x ?_
    refine TQ.then_n ?_
    refine T.seq ?_
    refine T.region ?_
    refine TL.assign hF rfl rfl ?_
    refine TL.nil ?_
    refine TQ.then_n ?_
    refine T.seq ?_
    refine T.seq ?_
    refine T.region ?_
    refine TL.load hF rfl (At.own' (i := 1) rfl rfl) rfl ?_
    refine TL.nilCheck hF rfl rfl ?_
    refine TL.fieldAddr hF rfl rfl ?_
    refine TL.fieldAddr hF rfl rfl ?_
    refine TL.load hF rfl (own_mem (cs := (rkV ⟨a2, qs.length, c2, 0, 0, 0, 0, lk, nb, bb, 0, 0⟩).toArray) (e := 86) (fz := (0, 0)) (by simp [coreR, rkV]) rfl) rfl ?_
    refine TL.len hF rfl rfl ?_
    refine TL.move hF rfl rfl ?_
    refine TL.nil ?_
    refine TQ.then_n ?_
    refine T.block ?_
    have hkn : k = qs.length := by omega
    subst hkn
    refine T.hnil ?_
    refine T.loop (ι := Nat × Option Addr × Nat × Seg) (fun i => match i with | (j, oa, oc, og) => j ≤ qs.length ∧ OSl 66 1 (.slice oa (widH qs j).length oc) (widH qs j).length ((widH qs j).map hc) og) (fun i => match i with | (j, oa, oc, og) => [(2, .slice none 0 0), (3, ptr b3), (5, ptr h5), (6, ptr h6), (10, .slice oa (widH qs j).length oc), (56, .slice a2 qs.length c2), (57, .int .i64 (qs.length : Int)), (58, .int .i64 (j : Int))]) (fun i => match i with | (j, oa, oc, og) => og :: coreR ⟨a2, qs.length, c2, h5, h4, h6, b7, lk, nb, bb, r5, r6⟩ (linkM (tx qs)).mate (rchN (EP (tx qs)) qs.length (linkM (tx qs)) qs.length) (iseg nb qs.length (linkM (tx qs)).nx :: [(b18, Obj.cells #[gc (a, ps, c)] 32 (0, 0))] :: [(b15, Obj.cells #[gc (a, ps, c)] 32 (0, 0))] :: [(b3, Obj.cells #[.int .i64 0] ERR (0, 0))] :: η)) (fun i => qs.length - i.1) (0, none, 0, []) ⟨Nat.zero_le _, OSl.nil _ _⟩ ⟨rfl, rfl, rfl, rfl, rfl, rfl, rfl, rfl, trivial⟩ rfl ?_
    rintro ⟨j, oa, oc, og⟩ ⟨hj, ho⟩
    refine T.seq ?_
    refine T.region ?_
    refine TL.bin hF rfl rfl rfl rfl ?_
    refine TL.nil ?_
    refine TQ.then_n ?_
    refine T.seq ?_
    first | refine T.cond_d rfl (fun ht59 => ?_) (fun ht59 => ?_) | refine T.cond _ rfl (fun ht59 => ?_) (fun ht59 => ?_)
    ·refine T.skip ?_
     refine TQ.then_n ?_
     refine T.seq ?_
     refine T.block ?_
     refine T.seq ?_
     refine T.region ?_
     refine TL.move hF rfl rfl ?_
     refine TL.indexAddr hF rfl rfl (hq1.ad (i := j) (by omega)) (by omega) (by omega) rfl ?_
     refine TL.load hF rfl (hq1.ro.at (i := j) (by omega)) rfl ?_
     refine TL.assign hF rfl rfl ?_
     refine TL.assign hF rfl rfl ?_
     refine TL.nil ?_
     refine TQ.then_n ?_
     refine T.seq ?_
     refine T.region ?_
     refine TL.load hF rfl (At.own' (i := 1) rfl rfl) rfl ?_
     refine TL.move hF rfl rfl ?_
     refine TL.indexAddr hF rfl rfl ⟨_, rfl, rfl⟩ (by omega) (by omega) rfl ?_
     refine TL.load hF rfl (bseg_at (f := (rchN (EP (tx qs)) qs.length (linkM (tx qs)) qs.length).here) (n := qs.length) (b := r5) (j := j) (by simp [coreR]) (by omega)) rfl ?_
     refine TL.move hF rfl rfl ?_
     refine TL.gb (t := 67) rfl (fun g17_67 => ?_) (fun g17_67 => ?_)
     ·refine TL.on rfl rfl rfl g17_67 ?_
      refine TL.load hF rfl (At.own' (i := 3) rfl rfl) rfl ?_
      refine TL.on rfl rfl rfl g17_67 ?_
      refine TL.move hF rfl rfl ?_
      refine TL.on rfl rfl rfl g17_67 ?_
      refine TL.indexAddr hF rfl rfl ⟨_, rfl, rfl⟩ (by omega) (by omega) rfl ?_
      refine TL.on rfl rfl rfl g17_67 ?_
      refine TL.load hF rfl (bseg_at (f := (rchN (EP (tx qs)) qs.length (linkM (tx qs)) qs.length).there) (n := qs.length) (b := r6) (j := j) (by simp [coreR]) (by omega)) rfl ?_
      refine TL.on rfl rfl rfl g17_67 ?_
      refine TL.not hF rfl rfl ?_
      refine TL.pickT hF rfl g17_67 rfl rfl ?_
      refine TL.nil ?_
      refine TQ.then_n ?_
      refine T.cond _ rfl (fun ht73 => ?_) (fun ht73 => ?_)
      ·refine T.region ?_
       refine TL.move hF rfl rfl ?_
       refine TL.move hF rfl rfl ?_
       have hjl : j < qs.length := by omega
       refine TL.buildSlice hF rfl (cs := #[hc qs[j]]) (e := 66) (fun w => by kernel_rfl) rfl (fun b76 => ?_)
       have hwl := widH_len qs j
       refine TL.append hF 1 rfl rfl rfl ho (row_own (cs := [hc qs[j]]) (e := 66) (by simp)).src rfl rfl (by simp [hc, Value.oneCell']) (by omega) (by omega) rfl (fun a' cap' seg' ho' => ?_)
       refine TL.assign hF rfl rfl ?_
       refine TL.nil ?_
       refine TQ.block_n ?_
       refine TQ.then_n ?_
       refine T.region ?_
       refine TL.add hF rfl rfl (by omega) (by omega) rfl ?_
       refine TL.move hF rfl rfl ?_
       refine TL.nil ?_
       have e1 : widH qs (j + 1) = widH qs j ++ [qs[j]] := by
        unfold widH
        rw [widK_succ, hRM, if_pos ⟨g17_67, by simpa using ht73⟩, List.map_append]
        simp only [List.map_cons, List.map_nil]
        rw [List.getD_eq_getElem?_getD, List.getElem?_eq_getElem hjl]; rfl
       refine TQ.pop ?_
       refine TQ.round (j + 1, a', cap', seg') ⟨by omega, by rw [e1, List.length_append, List.map_append]; exact ho'⟩ (by dsimp only; omega) ⟨rfl, rfl, rfl, rfl, congrArg (fun n : Nat => some (Value.slice a' n cap')) (by rw [e1, List.length_append]; rfl), rfl, rfl, rfl, trivial⟩ rfl
      ·refine T.skip ?_
       refine TQ.block_n ?_
       refine TQ.then_n ?_
       refine T.region ?_
       refine TL.add hF rfl rfl (by omega) (by omega) rfl ?_
       refine TL.move hF rfl rfl ?_
       refine TL.nil ?_
       have e1 : widH qs (j + 1) = widH qs j := by
        unfold widH
        rw [widK_succ, hRM, if_neg (by simp only [not_and]; intro _; simpa using ht73), List.append_nil]
       refine TQ.round (j + 1, oa, oc, og) ⟨by omega, by rw [e1]; exact ho⟩ (by dsimp only; omega) ⟨rfl, rfl, rfl, rfl, congrArg (fun l : List HL => some (Value.slice oa l.length oc)) e1.symm, rfl, rfl, rfl, trivial⟩ rfl
     ·refine TL.off hF rfl rfl rfl g17_67 rfl ?_
      refine TL.off hF rfl rfl rfl g17_67 rfl ?_
      refine TL.off hF rfl rfl rfl g17_67 rfl ?_
      refine TL.off hF rfl rfl rfl g17_67 rfl ?_
      refine TL.off hF rfl rfl rfl g17_67 rfl ?_
      refine TL.pickF hF rfl g17_67 rfl rfl ?_
      refine TL.nil ?_
      refine TQ.then_n ?_
      refine T.cond_f rfl rfl ?_
      refine T.skip ?_
      refine TQ.block_n ?_
      refine TQ.then_n ?_
      refine T.region ?_
      refine TL.add hF rfl rfl (by omega) (by omega) rfl ?_
      refine TL.move hF rfl rfl ?_
      refine TL.nil ?_
      have e1 : widH qs (j + 1) = widH qs j := by
       unfold widH
       rw [widK_succ, hRM, if_neg (by rw [g17_67]; simp), List.append_nil]
      refine TQ.round (j + 1, oa, oc, og) ⟨by omega, by rw [e1]; exact ho⟩ (by dsimp only; omega) ⟨rfl, rfl, rfl, rfl, congrArg (fun l : List HL => some (Value.slice oa l.length oc)) e1.symm, rfl, rfl, rfl, trivial⟩ rfl
    ·refine T.exit ?_
     refine TQ.then_x ?_
     refine TQ.then_x ?_
     refine TQ.block_x ?_
     refine TQ.then_n ?_
     refine T.seq ?_
     refine T.region ?_
     refine TL.move hF rfl rfl ?_
     have hjn : j = qs.length := by omega
     subst hjn
     have hwl := widH_len qs qs.length
     have hwm : ∀ p ∈ widH qs qs.length, p.2.1.length ≤ w := fun p hp => by
      obtain ⟨j, _, rfl⟩ := List.mem_map.1 hp
      rw [List.getD_eq_getElem?_getD]
      cases h : qs[j]? with
      | none => exact Nat.zero_le _
      | some p => exact Nat.le_of_eq (hwq p (List.mem_of_getElem? h))
     have hch : LL S1 w1 (og :: coreR ⟨a2, qs.length, c2, h5, h4, h6, b7, lk, nb, bb, r5, r6⟩ (linkM (tx qs)).mate (rchN (EP (tx qs)) qs.length (linkM (tx qs)) qs.length) (iseg nb qs.length (linkM (tx qs)).nx :: [(b18, Obj.cells #[gc (a, ps, c)] 32 (0, 0))] :: [(b15, Obj.cells #[gc (a, ps, c)] 32 (0, 0))] :: [(b3, Obj.cells #[.int .i64 0] ERR (0, 0))] :: η)) oa (widH qs qs.length) := ⟨ho.row List.mem_cons_self, fun p hp => by
      obtain ⟨j, _, rfl⟩ := List.mem_map.1 hp
      rw [List.getD_eq_getElem?_getD]
      cases h : qs[j]? with
      | none => exact Row.none
      | some p => exact hq1.ro.item p (List.mem_of_getElem? h)⟩
     refine TL.call hF (numbers_fn (c := oc) hch (by omega) (fun p hp => by have := hwm p hp; omega)) rfl rfl ?_
     rintro _ _ ⟨a4, c4, outs, og2, rfl, hol, hto, rfl⟩
     refine TL.heap (η' := ((og2 :: outs.reverse.map (·.2)) ++ (og :: (coreR ⟨a2, qs.length, c2, h5, h4, h6, b7, lk, nb, bb, r5, r6⟩ (linkM (tx qs)).mate (rchN (EP (tx qs)) qs.length (linkM (tx qs)) qs.length) (iseg nb qs.length (linkM (tx qs)).nx :: [[(b18, Obj.cells #[gc (a, ps, c)] 32 (0, 0))], [(b15, Obj.cells #[gc (a, ps, c)] 32 (0, 0))]])))) ++ ([(b3, Obj.cells #[.int .i64 0] ERR (0, 0))] :: η)) (by simp only [List.append_assoc, List.cons_append]; rfl) ?_
     refine TL.hperm ([(b3, Obj.cells #[.int .i64 0] ERR (0, 0))] :: (((og2 :: outs.reverse.map (·.2)) ++ (og :: (coreR ⟨a2, qs.length, c2, h5, h4, h6, b7, lk, nb, bb, r5, r6⟩ (linkM (tx qs)).mate (rchN (EP (tx qs)) qs.length (linkM (tx qs)) qs.length) (iseg nb qs.length (linkM (tx qs)).nx :: [[(b18, Obj.cells #[gc (a, ps, c)] 32 (0, 0))], [(b15, Obj.cells #[gc (a, ps, c)] 32 (0, 0))]])))) ++ η)) List.perm_middle.symm ?_
     refine TL.assign hF rfl rfl ?_
     refine TL.storeI hF 0 rfl rfl rfl rfl (by decide) ?_
     refine TL.nil ?_
     refine TQ.then_n ?_
     refine T.ret ?_
     refine TQ.thaw hz1 ?_
     have e : widestS (tx ps) = (widT (sortT (tx ps)), 0) := by unfold widestS; rw [if_pos hB]
     refine TQ.retL [2] _ stop89 (stopped_nil _) rfl rfl rfl (own_mem (e := ERR) (fz := (0, 0)) (cs := #[.int .i64 0]) (by simp) rfl) ?_
     rw [e]
     refine ⟨a4, c4, outs.map (·.1), segs ++ ([(b3, Obj.cells #[.int .i64 0] ERR (0, 0))] :: ((og2 :: outs.reverse.map (·.2)) ++ (og :: (coreR ⟨a2, qs.length, c2, h5, h4, h6, b7, lk, nb, bb, r5, r6⟩ (linkM (tx qs)).mate (rchN (EP (tx qs)) qs.length (linkM (tx qs)) qs.length) (iseg nb qs.length (linkM (tx qs)).nx :: [[(b18, Obj.cells #[gc (a, ps, c)] 32 (0, 0))], [(b15, Obj.cells #[gc (a, ps, c)] 32 (0, 0))]]))))), by rw [List.length_map]; rfl, ?_, hol.ll (by simp) (fun t ht => by simp only [List.mem_append, List.mem_cons, List.mem_map, List.mem_reverse]; right; right; left; right; exact ⟨t, ht, rfl⟩), by simp only [List.append_assoc, List.cons_append]; rfl⟩
     have e2 : tx (outs.map (·.1)) = tx (widH qs qs.length) := by rw [← hto]; simp [tx, List.map_map, Function.comp_def]
     rw [e2, tx_widH]
     unfold widT
     rw [← htq, tx_len]
 ·rintro _ _ ⟨hB, rfl, rfl⟩
  rw [listE_times] at hB ⊢
  refine TQ.then_p ?_
  refine TQ.pop ?_
  refine TQ.panL [2] [.slice none 0 0] stop89 (stopped_err _) rfl rfl rfl (At.own' (i := 0) rfl rfl) ?_
  have e : widestS (tx ps) = ([], timesE (tx ps)) := by unfold widestS; rw [if_neg (by intro h; rw [h] at hB; rcases hB with q | q <;> cases q)]
  rw [e]
  exact ⟨none, 0, [], [_], rfl, rfl, LL.none, rfl⟩
end Go.Proofs.YteimjjpigohnhaaGreat
/- What the laws use. -/
namespace Go.Proofs.YteimjjpigohnhaaGreat
open Go.Sl
variable {S : Nat → Prop} {w0 : World} {η : Heap}
set_option maxHeartbeats 2000000 in
theorem at_fn {a : Option Addr} {n c : Nat} :
  Rt Tryz.prog 32 [.slice a n c].toArray S w0 η (fun v η' => v = .slice a n c ∧ η' = η) := by
 have hF := open_wide
 refine Rt.of (fn := Tryz.f32) Tryz.func32 rfl rfl ?_
 refine T.seq ?_
 refine T.region ?_
 refine TL.assign hF rfl rfl ?_
 refine TL.nil ?_
 refine TQ.then_n ?_
 refine T.seq ?_
 refine T.region ?_
 refine TL.move hF rfl rfl ?_
 refine TL.assign hF rfl rfl ?_
 refine TL.nil ?_
 refine TQ.then_n ?_
 refine T.ret ?_
 refine TQ.rets [2] _ rfl rfl rfl ?_
 exact ⟨rfl, rfl⟩
/-- The time that a number makes. -/
def tmI : Nat → Int → List Int
 | 0, _ => []
 | k + 1, n => turnI n 6 :: tmI k (Int.tdiv n 6)
theorem tmI_len : ∀ (k : Nat) (n : Int), (tmI k n).length = k
 | 0, _ => rfl
 | k + 1, n => by simp [tmI, tmI_len k]
theorem tmI_range : ∀ (k : Nat) (n : Int), ∀ x ∈ tmI k n, 0 ≤ x ∧ x < 6
 | 0, _, _, h => by simp [tmI] at h
 | k + 1, n, x, h => by
  unfold tmI at h
  rcases List.mem_cons.1 h with rfl | h
  ·exact turnI_range n (by decide)
  ·exact tmI_range k _ x h
theorem tdiv6 (n : Int) : Int.tdiv n 6 = if 0 ≤ n then n / 6 else -((-n) / 6) := by
 split
 ·rename_i h; exact Int.tdiv_eq_ediv_of_nonneg h
 ·rename_i h
  have h1 : Int.tdiv n 6 = - Int.tdiv (-n) 6 := by rw [Int.neg_tdiv]; omega
  rw [h1, Int.tdiv_eq_ediv_of_nonneg (by omega)]
def W64 (n : Int) : Prop := -9223372036854775808 ≤ n ∧ n ≤ 9223372036854775807
theorem W64.div {n : Int} (h : W64 n) : W64 (Int.tdiv n 6) := by
 obtain ⟨h1, h2⟩ := h
 rw [tdiv6]; unfold W64; split <;> omega
set_option maxHeartbeats 2000000 in
theorem time_fn {n : Int} {k : Nat} (hn : W64 n) (hk : k < 1000) :
  Rt Tryz.prog 55 [.int .i64 n, .int .i64 (k : Int)].toArray S w0 η (fun v η' => ∃ a' cap seg, v = .slice a' k cap ∧ OSl 3 1 (.slice a' k cap) k (ints (tmI k n)) seg ∧ η' = seg :: η) := by
 have hF := open_wide
 refine Rt.of (fn := Tryz.f55) Tryz.func55 rfl rfl ?_
 refine T.seq ?_
 refine T.region ?_
 refine TL.assign hF rfl rfl ?_
 refine TL.nil ?_
 refine TQ.then_n ?_
 refine T.seq ?_
 refine T.region ?_
 refine TL.buildSlice hF rfl (cs := #[]) (e := 3) (fun w => by kernel_rfl) rfl (fun b7 => ?_)
 refine TL.assign hF rfl rfl ?_
 refine TL.nil ?_
 refine TQ.then_n ?_
 refine T.seq ?_
 refine T.seq ?_
 refine T.region ?_
 refine TL.assign hF rfl rfl ?_
 refine TL.nil ?_
 refine TQ.then_n ?_
 refine T.block ?_
 refine T.loop (ι := Nat × Int × List Int × Option Addr × Nat × Seg) (fun i => match i with | (j, m, l, oa, oc, og) => j ≤ k ∧ W64 m ∧ l.length = j ∧ tmI k n = l ++ tmI (k - j) m ∧ OSl 3 1 (.slice oa l.length oc) l.length (ints l) og) (fun i => match i with | (j, m, l, oa, oc, og) => [(0, .int .i64 m), (1, .int .i64 (k : Int)), (5, .slice oa l.length oc), (6, .int .i64 (j : Int))]) (fun i => match i with | (j, m, l, oa, oc, og) => og :: η) (fun i => k - i.1) (0, n, [], some ⟨b7, 0, none⟩, 0, _) ⟨Nat.zero_le _, hn, rfl, rfl, osl_empty⟩ ⟨rfl, rfl, rfl, rfl, trivial⟩ rfl ?_
 rintro ⟨j, m, l, oa, oc, og⟩ ⟨hj, hm, hll, htm, ho⟩
 refine T.seq ?_
 refine T.seq ?_
 refine T.region ?_
 refine TL.move hF rfl rfl ?_
 refine TL.move hF rfl rfl ?_
 refine TL.bin hF rfl rfl rfl rfl ?_
 refine TL.nil ?_
 refine TQ.then_n ?_
 first | refine T.cond_d rfl (fun ht10 => ?_) (fun ht10 => ?_) | refine T.cond _ rfl (fun ht10 => ?_) (fun ht10 => ?_)
 ·refine T.skip ?_
  refine TQ.then_n ?_
  refine T.seq ?_
  refine T.block ?_
  refine T.seq ?_
  refine T.region ?_
  refine TL.move hF rfl rfl ?_
  refine TL.move hF rfl rfl ?_
  refine TL.callV hF (Turn_fn m (m := 6) (by decide)) rfl rfl ?_
  refine TL.buildSlice hF rfl (cs := #[.int .i64 (turnI m 6)]) (e := 3) (fun w => by kernel_rfl) rfl (fun b16 => ?_)
  refine TL.append hF 1 rfl rfl rfl ho (row_own (cs := [.int .i64 (turnI m 6)]) (e := 3) (by simp)).src rfl rfl (by simp [Value.oneCell']) (by omega) (by omega) rfl (fun a' cap' seg' ho' => ?_)
  refine TL.assign hF rfl rfl ?_
  refine TL.nil ?_
  refine TQ.then_n ?_
  refine T.region ?_
  refine TL.move hF rfl rfl ?_
  refine TL.quoI hF rfl rfl (r := Int.tdiv m 6) (by decide) (wrap_i64 hm.div.1 hm.div.2) rfl ?_
  refine TL.assign hF rfl rfl ?_
  refine TL.nil ?_
  refine TQ.block_n ?_
  refine TQ.then_n ?_
  refine T.region ?_
  refine TL.move hF rfl rfl ?_
  refine TL.add hF rfl rfl (by omega) (by omega) rfl ?_
  refine TL.assign hF rfl rfl ?_
  refine TL.nil ?_
  have e : k - j = (k - (j + 1)) + 1 := by omega
  refine TQ.pop ?_
  refine TQ.round (j + 1, Int.tdiv m 6, l ++ [turnI m 6], a', cap', seg') ⟨by omega, hm.div, by simp [hll], by rw [htm, e, List.append_assoc]; rfl, by rw [List.length_append]; unfold ints; rw [List.map_append]; exact ho'⟩ (by dsimp only; omega) ⟨rfl, rfl, congrArg (fun n : Nat => some (Value.slice a' n cap')) (by simp), rfl, trivial⟩ rfl
 ·refine T.exit ?_
  refine TQ.then_x ?_
  refine TQ.then_x ?_
  refine TQ.block_x ?_
  refine TQ.then_n ?_
  refine T.seq ?_
  refine T.region ?_
  refine TL.move hF rfl rfl ?_
  refine TL.assign hF rfl rfl ?_
  refine TL.nil ?_
  refine TQ.then_n ?_
  refine T.ret ?_
  refine TQ.rets [4] _ rfl rfl rfl ?_
  have e : k - j = 0 := by omega
  have hkl : l.length = k := by omega
  rw [e] at htm
  have htm : tmI k n = l := by rw [htm]; exact List.append_nil l
  rw [htm]
  rw [hkl] at ho
  exact ⟨oa, oc, og, by rw [hkl]; rfl, ho, rfl⟩
def tmsI (l : List Int) (wide most : Nat) : List (List Int) := (l.take most).map (tmI wide)
set_option maxHeartbeats 2000000 in
theorem times_fn {a : Option Addr} {l : List Int} {c wide most : Nat} (hx : Row S w0 [] a (ints l)) (hl : l.length < 2 ^ 63) (hw : ∀ x ∈ l, W64 x) (hwd : wide < 1000) (hm : most < 1000) :
  Rt Tryz.prog 58 [.slice a l.length c, .int .i64 (wide : Int), .int .i64 (most : Int)].toArray S w0 η (fun v η' => ∃ a' cap outs og, v = .slice a' outs.length cap ∧ OL 22 (.slice a' outs.length cap) outs og ∧ outs.map (fun t => t.1.2.1) = tmsI l wide most ∧ η' = og :: (outs.reverse.map (·.2) ++ η)) := by
 have hF := open_wide
 refine Rt.of (fn := Tryz.f58) Tryz.func58 rfl rfl ?_
 refine T.seq ?_
 refine T.region ?_
 refine TL.assign hF rfl rfl ?_
 refine TL.nil ?_
 refine TQ.then_n ?_
 refine T.seq ?_
 refine T.region ?_
 refine TL.buildSlice hF rfl (cs := #[]) (e := 22) (fun w => by kernel_rfl) rfl (fun b9 => ?_)
 refine TL.assign hF rfl rfl ?_
 refine TL.nil ?_
 refine TQ.then_n ?_
 refine T.seq ?_
 refine T.seq ?_
 refine T.region ?_
 refine TL.assign hF rfl rfl ?_
 refine TL.nil ?_
 refine TQ.then_n ?_
 refine T.block ?_
 refine T.loop (ι := Nat × Option Addr × Nat × List (HL × Seg) × Seg) (fun i => match i with | (k, oa, oc, outs, og) => k ≤ l.length ∧ k ≤ most ∧ outs.map (fun t => t.1.2.1) = (l.take k).map (tmI wide) ∧ OL 22 (.slice oa outs.length oc) outs og) (fun i => match i with | (k, oa, oc, outs, og) => [(0, .slice a l.length c), (1, .int .i64 (wide : Int)), (2, .int .i64 (most : Int)), (7, .slice oa outs.length oc), (8, .int .i64 (k : Int))]) (fun i => match i with | (k, oa, oc, outs, og) => og :: (outs.reverse.map (·.2) ++ η)) (fun i => l.length - i.1) (0, some ⟨b9, 0, none⟩, 0, [], _) ⟨Nat.zero_le _, Nat.zero_le _, by simp, ⟨osl_empty, fun t ht => by simp at ht⟩⟩ ⟨rfl, rfl, rfl, rfl, rfl, trivial⟩ rfl ?_
 rintro ⟨k, oa, oc, outs, og⟩ ⟨hk, hkm, htx, ho⟩
 have hol : outs.length = k := by have := congrArg List.length htx; rw [List.length_map, List.length_map, List.length_take] at this; omega
 refine T.seq ?_
 refine T.seq ?_
 refine T.region ?_
 refine TL.move hF rfl rfl ?_
 refine TL.move hF rfl rfl ?_
 refine TL.len hF rfl rfl ?_
 refine TL.bin hF rfl rfl rfl rfl ?_
 refine TL.move hF rfl rfl ?_
 refine TL.gd (t := 14) rfl (fun g3_14 => ?_) (fun g3_14 => ?_)
 ·refine TL.on rfl rfl rfl (decide_eq_true g3_14) ?_
  refine TL.move hF rfl rfl ?_
  refine TL.on rfl rfl rfl (decide_eq_true g3_14) ?_
  refine TL.move hF rfl rfl ?_
  refine TL.on rfl rfl rfl (decide_eq_true g3_14) ?_
  refine TL.bin hF rfl rfl rfl rfl ?_
  refine TL.pickT hF rfl (decide_eq_true g3_14) rfl rfl ?_
  refine TL.nil ?_
  refine TQ.then_n ?_
  first | refine T.cond_d rfl (fun ht18 => ?_) (fun ht18 => ?_) | refine T.cond _ rfl (fun ht18 => ?_) (fun ht18 => ?_)
  ·refine T.skip ?_
   refine TQ.then_n ?_
   refine T.seq ?_
   refine T.block ?_
   refine T.region ?_
   refine TL.move hF rfl rfl ?_
   refine TL.move hF rfl rfl ?_
   refine TL.move hF rfl rfl ?_
   refine TL.indexAddr hF rfl rfl (hx.adi (i := k) (by simp; omega)) (by omega) (by omega) rfl ?_
   refine TL.load hF rfl (hx.ro.int (i := k) (by omega)) rfl ?_
   refine TL.move hF rfl rfl ?_
   have hkl : k < l.length := by omega
   refine TL.call hF (time_fn (hw _ (List.getElem_mem hkl)) hwd) rfl rfl ?_
   rintro _ _ ⟨ua, uc, us, rfl, hu, rfl⟩
   refine TL.buildSlice hF rfl (cs := #[.slice ua wide uc]) (e := 22) (fun w => by kernel_rfl) rfl (fun b28 => ?_)
   refine TL.append hF 2 rfl rfl rfl ho.o (row_own (cs := [.slice ua wide uc]) (e := 22) (by simp)).src rfl rfl (by simp [Value.oneCell']) (by omega) (by omega) rfl (fun a' cap' seg' ho' => ?_)
   refine TL.assign hF rfl rfl ?_
   refine TL.nil ?_
   refine TQ.block_n ?_
   refine TQ.then_n ?_
   refine T.region ?_
   refine TL.move hF rfl rfl ?_
   refine TL.add hF rfl rfl (by omega) (by omega) rfl ?_
   refine TL.assign hF rfl rfl ?_
   refine TL.nil ?_
   have e4 : outs.length + 1 = (outs ++ [(((ua, tmI wide l[k], uc) : HL), us)]).length := by simp
   refine TQ.pick [2, 1] [_, _, _] rfl rfl rfl ?_
   refine TQ.round (k + 1, a', cap', outs ++ [((ua, tmI wide l[k], uc), us)], seg') ⟨by omega, by omega, ?_, ⟨?_, ?_⟩⟩ (by dsimp only; omega) ⟨rfl, rfl, rfl, congrArg (fun n : Nat => some (Value.slice a' n cap')) e4, rfl, trivial⟩ (by simp [pickL])
   ·rw [List.map_append, htx, List.take_succ_eq_append_getElem hkl, List.map_append]; rfl
   ·rw [← e4, List.map_append]
    have e5 : hc (ua, tmI wide l[k], uc) = .slice ua wide uc := by simp only [hc]; rw [tmI_len]
    simp only [List.map_cons, List.map_nil]
    rw [e5]; exact ho'
   ·intro t ht
    rcases List.mem_append.1 ht with h | h
    ·exact ho.i t h
    ·rw [List.mem_singleton.1 h]; simp only [hc]; rw [tmI_len]; exact hu
  ·refine T.exit ?_
   refine TQ.then_x ?_
   refine TQ.then_x ?_
   refine TQ.block_x ?_
   refine TQ.then_n ?_
   refine T.seq ?_
   refine T.region ?_
   refine TL.move hF rfl rfl ?_
   refine TL.assign hF rfl rfl ?_
   refine TL.nil ?_
   refine TQ.then_n ?_
   refine T.ret ?_
   refine TQ.rets [6] _ rfl rfl rfl ?_
   refine ⟨oa, oc, outs, og, rfl, ho, ?_, rfl⟩
   rw [htx]
   unfold tmsI
   by_cases h : k = l.length
   ·rw [h, List.take_length, List.take_of_length_le (by omega)]
   ·rw [show k = most by omega]
 ·refine TL.off hF rfl rfl rfl (decide_eq_false g3_14) rfl ?_
  refine TL.off hF rfl rfl rfl (decide_eq_false g3_14) rfl ?_
  refine TL.off hF rfl rfl rfl (decide_eq_false g3_14) rfl ?_
  refine TL.pickF hF rfl (decide_eq_false g3_14) rfl rfl ?_
  refine TL.nil ?_
  refine TQ.then_n ?_
  refine T.cond_f rfl rfl ?_
  refine T.exit ?_
  refine TQ.then_x ?_
  refine TQ.then_x ?_
  refine TQ.block_x ?_
  refine TQ.then_n ?_
  refine T.seq ?_
  refine T.region ?_
  refine TL.move hF rfl rfl ?_
  refine TL.assign hF rfl rfl ?_
  refine TL.nil ?_
  refine TQ.then_n ?_
  refine T.ret ?_
  refine TQ.rets [6] _ rfl rfl rfl ?_
  refine ⟨oa, oc, outs, og, rfl, ho, ?_, rfl⟩
  rw [htx]
  unfold tmsI
  by_cases h : k = l.length
  ·rw [h, List.take_length, List.take_of_length_le (by omega)]
  ·rw [show k = most by omega]
def lessB (xs ys : Tm) : Bool := (lessS xs ys).1 && decide ((lessS xs ys).2 = 0)
set_option maxHeartbeats 2000000 in
theorem lawless_fn {a b : Option Addr} {xs ys : List Int} {c d : Nat} (hx : Row S w0 [] a (ints xs)) (hy : Row S w0 [] b (ints ys)) (hl : xs.length < 2 ^ 63) (hl2 : ys.length < 2 ^ 63) :
  Rt Tryz.prog 19 [.slice a xs.length c, .slice b ys.length d].toArray S w0 η (fun v η' => v = .bool (lessB xs ys) ∧ ∃ segs, η' = segs ++ η) := by
 have hF := open_wide
 refine Rt.of (fn := Tryz.f19) Tryz.func19 rfl rfl ?_
 refine T.seq ?_
 refine T.region ?_
 refine TL.assign hF rfl rfl ?_
 refine TL.nil ?_
 refine TQ.then_n ?_
 refine T.seq ?_
 refine T.region ?_
 refine TL.move hF rfl rfl ?_
 refine TL.move hF rfl rfl ?_
 refine TL.call hF (Less_prog hx hy hl hl2) rfl rfl ?_
 rintro _ _ ⟨rfl, segs, rfl⟩
 refine TL.move hF rfl rfl ?_
 refine TL.extract hF rfl rfl rfl ?_
 refine TL.extract hF rfl rfl rfl ?_
 refine TL.assign hF rfl rfl ?_
 refine TL.assign hF rfl rfl ?_
 refine TL.nil ?_
 refine TQ.then_n ?_
 refine T.seq ?_
 refine T.region ?_
 refine TL.move hF rfl rfl ?_
 refine TL.move hF rfl rfl ?_
 refine TL.gb (t := 14) rfl (fun g2_14 => ?_) (fun g2_14 => ?_)
 ·refine TL.on rfl rfl rfl g2_14 ?_
  refine TL.move hF rfl rfl ?_
  refine TL.on rfl rfl rfl g2_14 ?_
  refine TL.bin hF rfl rfl rfl rfl ?_
  refine TL.pickT hF rfl g2_14 rfl rfl ?_
  refine TL.assign hF rfl rfl ?_
  refine TL.nil ?_
  refine TQ.then_n ?_
  refine T.ret ?_
  refine TQ.rets [4] _ rfl rfl rfl ?_
  exact ⟨by unfold lessB; rw [g2_14]; rfl, segs, rfl⟩
 ·refine TL.off hF rfl rfl rfl g2_14 rfl ?_
  refine TL.off hF rfl rfl rfl g2_14 rfl ?_
  refine TL.pickF hF rfl g2_14 rfl rfl ?_
  refine TL.assign hF rfl rfl ?_
  refine TL.nil ?_
  refine TQ.then_n ?_
  refine T.ret ?_
  refine TQ.rets [4] _ rfl rfl rfl ?_
  exact ⟨by unfold lessB; rw [g2_14]; rfl, segs, rfl⟩
theorem meetS_bad {xs ys : Tm} (h : (meetS xs ys).2 ≠ 0) : (meetS xs ys).1 = [] := by
 unfold meetS at h ⊢; split
 ·rename_i q; rw [if_pos q] at h; exact absurd rfl h
 ·rfl
theorem joinS_bad {xs ys : Tm} (h : (joinS xs ys).2 ≠ 0) : (joinS xs ys).1 = [] := by
 unfold joinS at h ⊢; split
 ·rename_i q; rw [if_pos q] at h; exact absurd rfl h
 ·rfl
set_option maxHeartbeats 2000000 in
theorem lawmeet_fn {a b : Option Addr} {xs ys : List Int} {c d : Nat} (hx : Row S w0 [] a (ints xs)) (hy : Row S w0 [] b (ints ys)) (hl : xs.length < 2 ^ 63) (hl2 : ys.length < 2 ^ 63) :
  Rt Tryz.prog 56 [.slice a xs.length c, .slice b ys.length d].toArray S w0 η (fun v η' => ∃ a' cap segs, v = .slice a' (meetS xs ys).1.length cap ∧ Row S w0 segs a' (ints (meetS xs ys).1) ∧ η' = segs ++ η) := by
 have hF := open_wide
 refine Rt.of (fn := Tryz.f56) Tryz.func56 rfl rfl ?_
 refine T.seq ?_
 refine T.region ?_
 refine TL.assign hF rfl rfl ?_
 refine TL.nil ?_
 refine TQ.then_n ?_
 refine T.seq ?_
 refine T.region ?_
 refine TL.move hF rfl rfl ?_
 refine TL.move hF rfl rfl ?_
 refine TL.call hF (Meet_prog hx hy hl hl2) rfl rfl ?_
 rintro _ _ ⟨a', cap, segs, rfl, hrow, rfl⟩
 refine TL.move hF rfl rfl ?_
 refine TL.extract hF rfl rfl rfl ?_
 refine TL.extract hF rfl rfl rfl ?_
 refine TL.assign hF rfl rfl ?_
 refine TL.assign hF rfl rfl ?_
 refine TL.nil ?_
 refine TQ.then_n ?_
 refine T.seq ?_
 refine T.seq ?_
 refine T.region ?_
 refine TL.move hF rfl rfl ?_
 refine TL.bin hF rfl rfl rfl rfl ?_
 refine TL.nil ?_
 refine TQ.then_n ?_
 first | refine T.cond_d rfl (fun ht14 => ?_) (fun ht14 => ?_) | refine T.cond _ rfl (fun ht14 => ?_) (fun ht14 => ?_)
 ·refine T.seq ?_
  refine T.region ?_
  refine TL.assign hF rfl rfl ?_
  refine TL.nil ?_
  refine TQ.then_n ?_
  refine T.ret ?_
  refine TQ.then_r ?_
  refine TQ.rets [4] _ rfl rfl rfl ?_
  have e := meetS_bad ht14
  rw [e]
  exact ⟨none, 0, segs, rfl, Row.none, rfl⟩
 ·refine T.skip ?_
  refine TQ.then_n ?_
  refine T.seq ?_
  refine T.region ?_
  refine TL.move hF rfl rfl ?_
  refine TL.assign hF rfl rfl ?_
  refine TL.nil ?_
  refine TQ.then_n ?_
  refine T.ret ?_
  refine TQ.rets [4] _ rfl rfl rfl ?_
  exact ⟨a', cap, segs, rfl, hrow, rfl⟩
set_option maxHeartbeats 2000000 in
theorem lawjoin_fn {a b : Option Addr} {xs ys : List Int} {c d : Nat} (hx : Row S w0 [] a (ints xs)) (hy : Row S w0 [] b (ints ys)) (hl : xs.length < 2 ^ 63) (hl2 : ys.length < 2 ^ 63) :
  Rt Tryz.prog 57 [.slice a xs.length c, .slice b ys.length d].toArray S w0 η (fun v η' => ∃ a' cap segs, v = .slice a' (joinS xs ys).1.length cap ∧ Row S w0 segs a' (ints (joinS xs ys).1) ∧ η' = segs ++ η) := by
 have hF := open_wide
 refine Rt.of (fn := Tryz.f57) Tryz.func57 rfl rfl ?_
 refine T.seq ?_
 refine T.region ?_
 refine TL.assign hF rfl rfl ?_
 refine TL.nil ?_
 refine TQ.then_n ?_
 refine T.seq ?_
 refine T.region ?_
 refine TL.move hF rfl rfl ?_
 refine TL.move hF rfl rfl ?_
 refine TL.call hF (Join_prog hx hy hl hl2) rfl rfl ?_
 rintro _ _ ⟨a', cap, segs, rfl, hrow, rfl⟩
 refine TL.move hF rfl rfl ?_
 refine TL.extract hF rfl rfl rfl ?_
 refine TL.extract hF rfl rfl rfl ?_
 refine TL.assign hF rfl rfl ?_
 refine TL.assign hF rfl rfl ?_
 refine TL.nil ?_
 refine TQ.then_n ?_
 refine T.seq ?_
 refine T.seq ?_
 refine T.region ?_
 refine TL.move hF rfl rfl ?_
 refine TL.bin hF rfl rfl rfl rfl ?_
 refine TL.nil ?_
 refine TQ.then_n ?_
 first | refine T.cond_d rfl (fun ht14 => ?_) (fun ht14 => ?_) | refine T.cond _ rfl (fun ht14 => ?_) (fun ht14 => ?_)
 ·refine T.seq ?_
  refine T.region ?_
  refine TL.assign hF rfl rfl ?_
  refine TL.nil ?_
  refine TQ.then_n ?_
  refine T.ret ?_
  refine TQ.then_r ?_
  refine TQ.rets [4] _ rfl rfl rfl ?_
  have e := joinS_bad ht14
  rw [e]
  exact ⟨none, 0, segs, rfl, Row.none, rfl⟩
 ·refine T.skip ?_
  refine TQ.then_n ?_
  refine T.seq ?_
  refine T.region ?_
  refine TL.move hF rfl rfl ?_
  refine TL.assign hF rfl rfl ?_
  refine TL.nil ?_
  refine TQ.then_n ?_
  refine T.ret ?_
  refine TQ.rets [4] _ rfl rfl rfl ?_
  exact ⟨a', cap, segs, rfl, hrow, rfl⟩
set_option maxHeartbeats 2000000 in
theorem wide_fn {a : Option Addr} {ps : List HL} {c n : Nat} (hx : LL S w0 η a ps) (hl : ps.length < 2 ^ 63) :
  Rt Tryz.prog 59 [.slice a ps.length c, .int .i64 (n : Int)].toArray S w0 η (fun v η' => v = .bool ((tx ps).all fun x => decide (x.length = n)) ∧ η' = η) := by
 have hF := open_wide
 refine Rt.of (fn := Tryz.f59) Tryz.func59 rfl rfl ?_
 refine T.seq ?_
 refine T.region ?_
 refine TL.assign hF rfl rfl ?_
 refine TL.nil ?_
 refine TQ.then_n ?_
 refine T.seq ?_
 refine T.seq ?_
 refine T.region ?_
 refine TL.assign hF rfl rfl ?_
 refine TL.nil ?_
 refine TQ.then_n ?_
 refine T.block ?_
 refine T.loop (ι := Nat) (fun k => k ≤ ps.length ∧ (tx ps).all (fun x => decide (x.length = n)) = ((tx ps).drop k).all fun x => decide (x.length = n)) (fun k => [(0, .slice a ps.length c), (1, .int .i64 (n : Int)), (4, .bool false), (5, .int .i64 (k : Int))]) (fun _ => η) (fun k => ps.length - k) 0 ⟨Nat.zero_le _, rfl⟩ ⟨rfl, rfl, rfl, rfl, trivial⟩ rfl ?_
 rintro k ⟨hk, hs⟩
 refine T.seq ?_
 refine T.seq ?_
 refine T.region ?_
 refine TL.move hF rfl rfl ?_
 refine TL.move hF rfl rfl ?_
 refine TL.len hF rfl rfl ?_
 refine TL.bin hF rfl rfl rfl rfl ?_
 refine TL.nil ?_
 refine TQ.then_n ?_
 first | refine T.cond_d rfl (fun ht9 => ?_) (fun ht9 => ?_) | refine T.cond _ rfl (fun ht9 => ?_) (fun ht9 => ?_)
 ·refine T.skip ?_
  refine TQ.then_n ?_
  refine T.seq ?_
  refine T.block ?_
  refine T.seq ?_
  refine T.region ?_
  refine TL.move hF rfl rfl ?_
  refine TL.move hF rfl rfl ?_
  refine TL.indexAddr hF rfl rfl (hx.ad (i := k) (by omega)) (by omega) (by omega) rfl ?_
  refine TL.load hF rfl (hx.at (i := k) (by omega)) rfl ?_
  refine TL.len hF rfl rfl ?_
  refine TL.move hF rfl rfl ?_
  refine TL.bin hF rfl rfl rfl rfl ?_
  refine TL.nil ?_
  refine TQ.then_n ?_
  first | refine T.cond_d rfl (fun ht18 => ?_) (fun ht18 => ?_) | refine T.cond _ rfl (fun ht18 => ?_) (fun ht18 => ?_)
  ·refine T.seq ?_
   refine T.region ?_
   refine TL.assign hF rfl rfl ?_
   refine TL.nil ?_
   refine TQ.then_n ?_
   refine T.ret ?_
   refine TQ.block_r ?_
   refine TQ.then_r ?_
   refine TQ.then_r ?_
   refine TQ.block_r ?_
   refine TQ.then_r ?_
   refine TQ.rets [4] _ rfl rfl rfl ?_
   have hkl : k < ps.length := by omega
   have e : (tx ps).all (fun x => decide (x.length = n)) = false := by rw [hs, tx_drop hkl, List.all_cons, decide_eq_false (by omega), Bool.false_and]
   exact ⟨by rw [e]; rfl, rfl⟩
  ·refine T.skip ?_
   refine TQ.block_n ?_
   refine TQ.then_n ?_
   refine T.region ?_
   refine TL.move hF rfl rfl ?_
   refine TL.add hF rfl rfl (by omega) (by omega) rfl ?_
   refine TL.assign hF rfl rfl ?_
   refine TL.nil ?_
   have hkl : k < ps.length := by omega
   refine TQ.round (k + 1) ⟨by omega, ?_⟩ (by omega) ⟨rfl, rfl, rfl, rfl, trivial⟩ rfl
   rw [hs, tx_drop hkl, List.all_cons, decide_eq_true (by omega), Bool.true_and]
 ·refine T.exit ?_
  refine TQ.then_x ?_
  refine TQ.then_x ?_
  refine TQ.block_x ?_
  refine TQ.then_n ?_
  refine T.seq ?_
  refine T.region ?_
  refine TL.assign hF rfl rfl ?_
  refine TL.nil ?_
  refine TQ.then_n ?_
  refine T.ret ?_
  refine TQ.rets [4] _ rfl rfl rfl ?_
  have e : (tx ps).all (fun x => decide (x.length = n)) = true := by rw [hs, List.drop_of_length_le (by rw [tx_len]; omega)]; rfl
  exact ⟨by rw [e]; rfl, rfl⟩
set_option maxHeartbeats 2000000 in
theorem apart_fn {a : Option Addr} {ps : List HL} {c w : Nat} (hx : LL S w0 η a ps) (hl : ps.length < 65536) (hw : ∀ p ∈ ps, p.2.1.length = w) (hw4 : w ≤ 4) :
  Rt Tryz.prog 52 [.slice a ps.length c].toArray S w0 η (fun v η' => v = .bool (decide (tx ps = firstsT (tx ps))) ∧ ∃ segs, η' = segs ++ η) := by
 have hF := open_wide
 refine Rt.of (fn := Tryz.f52) Tryz.func52 rfl rfl ?_
 refine T.seq ?_
 refine T.region ?_
 refine TL.assign hF rfl rfl ?_
 refine TL.nil ?_
 refine TQ.then_n ?_
 refine T.seq ?_
 refine T.region ?_
 refine TL.move hF rfl rfl ?_
 refine TL.move hF rfl rfl ?_
 refine TL.call hF (Earliest_fn hx (by omega) (fun p hp => by rw [hw p hp]; omega) hw) rfl rfl ?_
 rintro _ _ ⟨a2, c2, qs, segs, rfl, htq, rfl, hll, _⟩
 refine TL.callV hF (EqualLists_fn (hx.up (fun z hz => List.mem_append_right _ hz)) (hll.up (fun z hz => List.mem_append_left _ hz)) (by omega) (fun p hp => by rw [hw p hp]; omega)) rfl rfl ?_
 refine TL.assign hF rfl rfl ?_
 refine TL.nil ?_
 refine TQ.then_n ?_
 refine T.ret ?_
 refine TQ.rets [2] _ rfl rfl rfl ?_
 exact ⟨by rw [htq]; rfl, segs, rfl⟩
set_option maxHeartbeats 2000000 in
theorem among_fn {a b : Option Addr} {ps qs : List HL} {c d : Nat} (hx : LL S w0 η a ps) (hy : LL S w0 η b qs) (hl : ps.length < 2 ^ 63) (hl2 : qs.length < 2 ^ 63) (hlx : ∀ p ∈ ps, p.2.1.length < 2 ^ 63) :
  Rt Tryz.prog 51 [.slice a ps.length c, .slice b qs.length d].toArray S w0 η (fun v η' => v = .bool ((tx ps).all fun x => (tx qs).any fun y => decide (x = y)) ∧ η' = η) := by
 have hF := open_wide
 refine Rt.of (fn := Tryz.f51) Tryz.func51 rfl rfl ?_
 refine T.seq ?_
 refine T.region ?_
 refine TL.assign hF rfl rfl ?_
 refine TL.nil ?_
 refine TQ.then_n ?_
 refine T.seq ?_
 refine T.seq ?_
 refine T.region ?_
 refine TL.assign hF rfl rfl ?_
 refine TL.nil ?_
 refine TQ.then_n ?_
 refine T.block ?_
 refine T.loop (ι := Nat) (fun k => k ≤ ps.length ∧ (tx ps).all (fun x => (tx qs).any fun y => decide (x = y)) = ((tx ps).drop k).all fun x => (tx qs).any fun y => decide (x = y)) (fun k => [(0, .slice a ps.length c), (1, .slice b qs.length d), (4, .bool false), (5, .int .i64 (k : Int))]) (fun _ => η) (fun k => ps.length - k) 0 ⟨Nat.zero_le _, rfl⟩ ⟨rfl, rfl, rfl, rfl, trivial⟩ rfl ?_
 rintro k ⟨hk, hs⟩
 refine T.seq ?_
 refine T.seq ?_
 refine T.region ?_
 refine TL.move hF rfl rfl ?_
 refine TL.move hF rfl rfl ?_
 refine TL.len hF rfl rfl ?_
 refine TL.bin hF rfl rfl rfl rfl ?_
 refine TL.nil ?_
 refine TQ.then_n ?_
 first | refine T.cond_d rfl (fun ht11 => ?_) (fun ht11 => ?_) | refine T.cond _ rfl (fun ht11 => ?_) (fun ht11 => ?_)
 ·refine T.skip ?_
  refine TQ.then_n ?_
  refine T.seq ?_
  refine T.block ?_
  refine T.seq ?_
  refine T.region ?_
  refine TL.assign hF rfl rfl ?_
  refine TL.nil ?_
  refine TQ.then_n ?_
  refine T.seq ?_
  refine T.seq ?_
  refine T.region ?_
  refine TL.assign hF rfl rfl ?_
  refine TL.nil ?_
  refine TQ.then_n ?_
  refine T.block ?_
  have hkl : k < ps.length := by omega
  refine T.loop (ι := Nat × Bool) (fun j => j.1 ≤ qs.length ∧ (tx qs).any (fun y => decide (ps[k].2.1 = y)) = (j.2 || ((tx qs).drop j.1).any fun y => decide (ps[k].2.1 = y))) (fun j => [(0, .slice a ps.length c), (1, .slice b qs.length d), (4, .bool false), (5, .int .i64 (k : Int)), (6, .bool j.2), (7, .int .i64 (j.1 : Int))]) (fun _ => η) (fun j => qs.length - j.1) (0, false) ⟨Nat.zero_le _, by simp⟩ ⟨rfl, rfl, rfl, rfl, rfl, rfl, trivial⟩ rfl ?_
  rintro ⟨j, is⟩ ⟨hj, his⟩
  dsimp only at hj his
  refine T.seq ?_
  refine T.seq ?_
  refine T.region ?_
  refine TL.move hF rfl rfl ?_
  refine TL.move hF rfl rfl ?_
  refine TL.len hF rfl rfl ?_
  refine TL.bin hF rfl rfl rfl rfl ?_
  refine TL.nil ?_
  refine TQ.then_n ?_
  first | refine T.cond_d rfl (fun ht17 => ?_) (fun ht17 => ?_) | refine T.cond _ rfl (fun ht17 => ?_) (fun ht17 => ?_)
  ·refine T.skip ?_
   refine TQ.then_n ?_
   refine T.seq ?_
   refine T.block ?_
   have hjl : j < qs.length := by omega
   rcases is with _ | _
   ·refine T.draw ?_
    refine DR.stepV [_] rfl [(6, _, none)] rfl rfl ⟨⟨rfl, by kernel_rfl⟩, trivial⟩ (fun ext => TL.move hF rfl rfl TL.fin) ?_
    refine DR.stepV [_, _] rfl [(20, _, some 0)] rfl rfl ⟨⟨rfl, rfl, rfl⟩, trivial⟩ (fun ext => TL.move hF rfl rfl TL.fin) ?_
    refine DR.stepV [_, _, _] rfl [(0, _, none), (21, _, some 1)] rfl rfl ⟨⟨rfl, by kernel_rfl⟩, ⟨rfl, rfl, rfl⟩, trivial⟩ (fun ext => TL.on rfl rfl rfl rfl <| TL.move hF rfl rfl TL.fin) ?_
    refine DR.stepV [_, _, _, _] rfl [(5, _, none), (21, _, some 1)] rfl rfl ⟨⟨rfl, by kernel_rfl⟩, ⟨rfl, rfl, rfl⟩, trivial⟩ (fun ext => TL.on rfl rfl rfl rfl <| TL.move hF rfl rfl TL.fin) ?_
    refine DR.stepV [_, _, _, _, _] rfl [(22, _, some 2), (23, _, some 3), (21, _, some 1)] rfl rfl ⟨⟨rfl, rfl, rfl⟩, ⟨rfl, rfl, rfl⟩, ⟨rfl, rfl, rfl⟩, trivial⟩ (fun ext => TL.on rfl rfl rfl rfl <| TL.indexAddr hF rfl rfl (hx.ad (i := k) (by omega)) (by omega) (by omega) rfl TL.fin) ?_
    refine DR.stepV [_, _, _, _, _, _] rfl [(24, _, some 4), (21, _, some 1)] rfl rfl ⟨⟨rfl, rfl, rfl⟩, ⟨rfl, rfl, rfl⟩, trivial⟩ (fun ext => TL.on rfl rfl rfl rfl <| TL.load hF rfl (hx.at (i := k) (by omega)) rfl TL.fin) ?_
    refine DR.stepV [_, _, _, _, _, _, _] rfl [(1, _, none), (21, _, some 1)] rfl rfl ⟨⟨rfl, by kernel_rfl⟩, ⟨rfl, rfl, rfl⟩, trivial⟩ (fun ext => TL.on rfl rfl rfl rfl <| TL.move hF rfl rfl TL.fin) ?_
    refine DR.stepV [_, _, _, _, _, _, _, _] rfl [(7, _, none), (21, _, some 1)] rfl rfl ⟨⟨rfl, by kernel_rfl⟩, ⟨rfl, rfl, rfl⟩, trivial⟩ (fun ext => TL.on rfl rfl rfl rfl <| TL.move hF rfl rfl TL.fin) ?_
    refine DR.stepV [_, _, _, _, _, _, _, _, _] rfl [(26, _, some 6), (27, _, some 7), (21, _, some 1)] rfl rfl ⟨⟨rfl, rfl, rfl⟩, ⟨rfl, rfl, rfl⟩, ⟨rfl, rfl, rfl⟩, trivial⟩ (fun ext => TL.on rfl rfl rfl rfl <| TL.indexAddr hF rfl rfl (hy.ad (i := j) (by omega)) (by omega) (by omega) rfl TL.fin) ?_
    refine DR.stepV [_, _, _, _, _, _, _, _, _, _] rfl [(28, _, some 8), (21, _, some 1)] rfl rfl ⟨⟨rfl, rfl, rfl⟩, ⟨rfl, rfl, rfl⟩, trivial⟩ (fun ext => TL.on rfl rfl rfl rfl <| TL.load hF rfl (hy.at (i := j) (by omega)) rfl TL.fin) ?_
    refine DR.done [(29, _), (28, _), (27, _), (26, _), (25, _), (24, _), (23, _), (22, _), (21, _), (20, _)] [_, _, _] mixed (by kernel_rfl) (by kernel_rfl) (by kernel_rfl) rfl rfl ?_
    refine TL.on rfl rfl rfl rfl ?_
    refine TL.callV hF (Equal_fn (hx.it hkl) (hy.it hjl) (hlx _ (List.getElem_mem hkl))) rfl rfl ?_
    refine TL.pickF hF rfl rfl rfl rfl ?_
    refine TL.assign hF rfl rfl ?_
    refine TL.nil ?_
    refine TQ.block_n ?_
    refine TQ.then_n ?_
    refine T.region ?_
    refine TL.move hF rfl rfl ?_
    refine TL.add hF rfl rfl (by omega) (by omega) rfl ?_
    refine TL.assign hF rfl rfl ?_
    refine TL.nil ?_
    refine TQ.round (j + 1, decide (ps[k].2.1 = qs[j].2.1)) ⟨by dsimp only; omega, ?_⟩ (by dsimp only; omega) ⟨rfl, rfl, rfl, rfl, rfl, rfl, trivial⟩ rfl
    rw [his, tx_drop hjl, List.any_cons]; rfl
   ·refine T.draw ?_
    refine DR.stepV [_] rfl [(6, _, none)] rfl rfl ⟨⟨rfl, by kernel_rfl⟩, trivial⟩ (fun ext => TL.move hF rfl rfl TL.fin) ?_
    refine DR.stepV [_, _] rfl [(20, _, some 0)] rfl rfl ⟨⟨rfl, rfl, rfl⟩, trivial⟩ (fun ext => TL.move hF rfl rfl TL.fin) ?_
    refine DR.stepV [_, _, _] rfl [(0, _, none), (21, _, some 1)] rfl rfl ⟨⟨rfl, by kernel_rfl⟩, ⟨rfl, rfl, rfl⟩, trivial⟩ (fun ext => TL.off hF rfl rfl rfl rfl rfl TL.fin) ?_
    refine DR.stepV [_, _, _, _] rfl [(5, _, none), (21, _, some 1)] rfl rfl ⟨⟨rfl, by kernel_rfl⟩, ⟨rfl, rfl, rfl⟩, trivial⟩ (fun ext => TL.off hF rfl rfl rfl rfl rfl TL.fin) ?_
    refine DR.stepV [_, _, _, _, _] rfl [(22, _, some 2), (23, _, some 3), (21, _, some 1)] rfl rfl ⟨⟨rfl, rfl, rfl⟩, ⟨rfl, rfl, rfl⟩, ⟨rfl, rfl, rfl⟩, trivial⟩ (fun ext => TL.off hF rfl rfl rfl rfl rfl TL.fin) ?_
    refine DR.stepV [_, _, _, _, _, _] rfl [(24, _, some 4), (21, _, some 1)] rfl rfl ⟨⟨rfl, rfl, rfl⟩, ⟨rfl, rfl, rfl⟩, trivial⟩ (fun ext => TL.off hF rfl rfl rfl rfl rfl TL.fin) ?_
    refine DR.stepV [_, _, _, _, _, _, _] rfl [(1, _, none), (21, _, some 1)] rfl rfl ⟨⟨rfl, by kernel_rfl⟩, ⟨rfl, rfl, rfl⟩, trivial⟩ (fun ext => TL.off hF rfl rfl rfl rfl rfl TL.fin) ?_
    refine DR.stepV [_, _, _, _, _, _, _, _] rfl [(7, _, none), (21, _, some 1)] rfl rfl ⟨⟨rfl, by kernel_rfl⟩, ⟨rfl, rfl, rfl⟩, trivial⟩ (fun ext => TL.off hF rfl rfl rfl rfl rfl TL.fin) ?_
    refine DR.stepV [_, _, _, _, _, _, _, _, _] rfl [(26, _, some 6), (27, _, some 7), (21, _, some 1)] rfl rfl ⟨⟨rfl, rfl, rfl⟩, ⟨rfl, rfl, rfl⟩, ⟨rfl, rfl, rfl⟩, trivial⟩ (fun ext => TL.off hF rfl rfl rfl rfl rfl TL.fin) ?_
    refine DR.stepV [_, _, _, _, _, _, _, _, _, _] rfl [(28, _, some 8), (21, _, some 1)] rfl rfl ⟨⟨rfl, rfl, rfl⟩, ⟨rfl, rfl, rfl⟩, trivial⟩ (fun ext => TL.off hF rfl rfl rfl rfl rfl TL.fin) ?_
    refine DR.done [(29, _), (28, _), (27, _), (26, _), (25, _), (24, _), (23, _), (22, _), (21, _), (20, _)] [_, _, _] mixed (by kernel_rfl) (by kernel_rfl) (by kernel_rfl) rfl rfl ?_
    refine TL.off hF rfl rfl rfl rfl rfl ?_
    refine TL.pickT hF rfl rfl rfl rfl ?_
    refine TL.assign hF rfl rfl ?_
    refine TL.nil ?_
    refine TQ.block_n ?_
    refine TQ.then_n ?_
    refine T.region ?_
    refine TL.move hF rfl rfl ?_
    refine TL.add hF rfl rfl (by omega) (by omega) rfl ?_
    refine TL.assign hF rfl rfl ?_
    refine TL.nil ?_
    refine TQ.round (j + 1, true) ⟨by dsimp only; omega, ?_⟩ (by dsimp only; omega) ⟨rfl, rfl, rfl, rfl, rfl, rfl, trivial⟩ rfl
    rw [his]; rfl
  ·refine T.exit ?_
   refine TQ.then_x ?_
   refine TQ.then_x ?_
   refine TQ.block_x ?_
   refine TQ.then_n ?_
   refine T.seq ?_
   refine T.region ?_
   refine TL.move hF rfl rfl ?_
   refine TL.not hF rfl rfl ?_
   refine TL.nil ?_
   refine TQ.then_n ?_
   refine T.cond _ rfl (fun ht33 => ?_) (fun ht33 => ?_)
   all_goals simp only [Bool.not_eq_true', Bool.not_eq_false'] at ht33
   ·refine T.seq ?_
    refine T.region ?_
    refine TL.assign hF rfl rfl ?_
    refine TL.nil ?_
    refine TQ.then_n ?_
    refine T.ret ?_
    refine TQ.block_r ?_
    refine TQ.then_r ?_
    refine TQ.then_r ?_
    refine TQ.block_r ?_
    refine TQ.then_r ?_
    refine TQ.rets [4] _ rfl rfl rfl ?_
    have hjn : (tx qs).drop j = [] := List.drop_of_length_le (by rw [tx_len]; omega)
    rw [hjn, List.any_nil, Bool.or_false, ht33] at his
    have e : (tx ps).all (fun x => (tx qs).any fun y => decide (x = y)) = false := by rw [hs, tx_drop hkl, List.all_cons, his, Bool.false_and]
    exact ⟨by rw [e]; rfl, rfl⟩
   ·refine T.skip ?_
    refine TQ.block_n ?_
    refine TQ.then_n ?_
    refine T.region ?_
    refine TL.move hF rfl rfl ?_
    refine TL.add hF rfl rfl (by omega) (by omega) rfl ?_
    refine TL.assign hF rfl rfl ?_
    refine TL.nil ?_
    have hjn : (tx qs).drop j = [] := List.drop_of_length_le (by rw [tx_len]; omega)
    rw [hjn, List.any_nil, Bool.or_false, ht33] at his
    refine TQ.round (k + 1) ⟨by omega, ?_⟩ (by omega) ⟨rfl, rfl, rfl, rfl, trivial⟩ rfl
    rw [hs, tx_drop hkl, List.all_cons, his, Bool.true_and]
 ·refine T.exit ?_
  refine TQ.then_x ?_
  refine TQ.then_x ?_
  refine TQ.block_x ?_
  refine TQ.then_n ?_
  refine T.seq ?_
  refine T.region ?_
  refine TL.assign hF rfl rfl ?_
  refine TL.nil ?_
  refine TQ.then_n ?_
  refine T.ret ?_
  refine TQ.rets [4] _ rfl rfl rfl ?_
  have e : (tx ps).all (fun x => (tx qs).any fun y => decide (x = y)) = true := by rw [hs, List.drop_of_length_le (by rw [tx_len]; omega)]; rfl
  exact ⟨by rw [e]; rfl, rfl⟩
end Go.Proofs.YteimjjpigohnhaaGreat
/- What all laws end with. -/
namespace Go.Proofs.YteimjjpigohnhaaGreat
open Go.Sl
variable {S : Nat → Prop} {w0 : World} {η : Heap}
theorem skR {α : Type} {l m : List α} {x : α} (h : l.Sublist m) : l.Sublist (x :: m) := List.Sublist.cons _ h
theorem ResB.lit {r : Bool × Int} {η' : Heap} {v : Value} {b : Bool} {k : Int} (h : ResB r η v η') (e : r = (b, k)) : v = .tuple #[.bool b, .int .i64 k] ∧ ∃ segs, η' = segs ++ η := by subst e; exact h
theorem ResT.lit {r : Tm × Int} {η' : Heap} {v : Value} {L : Tm} {k : Int} (h : ResT S w0 r η v η') (e : r = (L, k)) : ∃ a cap segs, v = .tuple #[.slice a L.length cap, .int .i64 k] ∧ Row S w0 segs a (ints L) ∧ η' = segs ++ η := by subst e; exact h
theorem ResL.lit {r : List Tm × Int} {η' : Heap} {v : Value} {L : List Tm} {k : Int} (h : ResL S w0 r η v η') (e : r = (L, k)) : ∃ a cap ps segs, v = .tuple #[.slice a ps.length cap, .int .i64 k] ∧ tx ps = L ∧ LL S w0 segs a ps ∧ η' = segs ++ η := by subst e; exact h
theorem ResC.lit {r : List (List Tm) × Int} {η' : Heap} {v : Value} {L : List (List Tm)} {k : Int} (h : ResC S w0 r η v η') (e : r = (L, k)) : ∃ a cap gs segs, v = .tuple #[.slice a L.length cap, .int .i64 k] ∧ tg gs = L ∧ L3 S w0 segs a gs ∧ η' = segs ++ η := by
 subst e
 obtain ⟨a, cap, gs, segs, h1, h2, h3, h4⟩ := h
 have h5 : tg gs = L := h2
 have e : L.length = gs.length := by rw [← h5]; simp [tg]
 exact ⟨a, cap, gs, segs, by rw [e]; exact h1, h2, h3, h4⟩
theorem EqL_lit {a b : Option Addr} {ps qs : List HL} {c d : Nat} {L : List Tm} (hx : LL S w0 η a ps) (hy : LL S w0 η b qs) (he : tx ps = L) (hq : tx qs = L) (h1 : L.length < 2 ^ 63) (h2 : ∀ x ∈ L, x.length < 2 ^ 63) : Rt Tryz.prog 35 [.slice a ps.length c, .slice b qs.length d].toArray S w0 η (fun v η' => v = .bool true ∧ η' = η) := by
 have h := EqualLists_fn (ca := c) (cb := d) hx hy (by have := congrArg List.length he; rw [tx_len] at this; omega) (fun p hp => h2 _ (he ▸ List.mem_map_of_mem hp))
 rw [decide_eq_true (he.trans hq.symm)] at h
 exact h
set_option maxRecDepth 8000
set_option maxHeartbeats 2000000 in
theorem ordered_fn  :
  Rt Tryz.prog 14 [].toArray S w0 η (fun v _ => v = .bool true) := by
 have hF := open_wide
 refine Rt.of (fn := Tryz.f14) Tryz.func14 rfl rfl ?_
 refine T.seq ?_
 refine T.region ?_
 refine TL.assign hF rfl rfl ?_
 refine TL.nil ?_
 refine TQ.then_n ?_
 refine T.seq ?_
 refine T.region ?_
 have hb := Back.refl S w0
 refine TL.buildSlice hF rfl (cs := #[.int .i64 1, .int .i64 2]) (e := 3) (fun w => by kernel_rfl) rfl (fun b17 => ?_)
 refine TL.buildSlice hF rfl (cs := #[.int .i64 2, .int .i64 1]) (e := 3) (fun w => by kernel_rfl) rfl (fun b18 => ?_)
 refine TL.buildSlice hF rfl (cs := #[.slice (some ⟨b17, 0, none⟩) 2 2, .slice (some ⟨b18, 0, none⟩) 2 2]) (e := 22) (fun w => by kernel_rfl) rfl (fun b19 => ?_)
 refine TL.freeze ([[(b19, Obj.cells #[.slice (some ⟨b17, 0, none⟩) 2 2, .slice (some ⟨b18, 0, none⟩) 2 2] 22 (0, 0))], [(b18, Obj.cells #[.int .i64 2, .int .i64 1] 3 (0, 0))], [(b17, Obj.cells #[.int .i64 1, .int .i64 2] 3 (0, 0))]]) rfl (fun S1 w1 hz1 => ?_)
 replace hb := hb.frz hz1
 have h17 : Row S1 w1 [] (some ⟨b17, 0, none⟩) (ints [1, 2]) := (row_own (η := [[(b19, Obj.cells #[.slice (some ⟨b17, 0, none⟩) 2 2, .slice (some ⟨b18, 0, none⟩) 2 2] 22 (0, 0))], [(b18, Obj.cells #[.int .i64 2, .int .i64 1] 3 (0, 0))], [(b17, Obj.cells #[.int .i64 1, .int .i64 2] 3 (0, 0))]]) (cs := [.int .i64 1, .int .i64 2]) (e := 3) (by simp)).frz hz1
 have h18 : Row S1 w1 [] (some ⟨b18, 0, none⟩) (ints [2, 1]) := (row_own (η := [[(b19, Obj.cells #[.slice (some ⟨b17, 0, none⟩) 2 2, .slice (some ⟨b18, 0, none⟩) 2 2] 22 (0, 0))], [(b18, Obj.cells #[.int .i64 2, .int .i64 1] 3 (0, 0))], [(b17, Obj.cells #[.int .i64 1, .int .i64 2] 3 (0, 0))]]) (cs := [.int .i64 2, .int .i64 1]) (e := 3) (by simp)).frz hz1
 have h19 : LL S1 w1 [] (some ⟨b19, 0, none⟩) [(some ⟨b17, 0, none⟩, [1, 2], 2), (some ⟨b18, 0, none⟩, [2, 1], 2)] := ⟨(row_own (η := [[(b19, Obj.cells #[.slice (some ⟨b17, 0, none⟩) 2 2, .slice (some ⟨b18, 0, none⟩) 2 2] 22 (0, 0))], [(b18, Obj.cells #[.int .i64 2, .int .i64 1] 3 (0, 0))], [(b17, Obj.cells #[.int .i64 1, .int .i64 2] 3 (0, 0))]]) (cs := [.slice (some ⟨b17, 0, none⟩) 2 2, .slice (some ⟨b18, 0, none⟩) 2 2]) (e := 22) (by simp)).frz hz1, fun p hp => by
  simp only [List.mem_cons, List.not_mem_nil, or_false] at hp
  rcases hp with rfl | rfl
  ·exact h17
  ·exact h18⟩
 refine TL.assign hF rfl rfl ?_
 refine TL.nil ?_
 refine TQ.then_n ?_
 refine T.seq ?_
 refine T.region ?_
 refine TL.buildSlice hF rfl (cs := #[.int .i64 1, .int .i64 2]) (e := 3) (fun w => by kernel_rfl) rfl (fun b21 => ?_)
 refine TL.callV hF (at_fn) rfl rfl ?_
 refine TL.buildSlice hF rfl (cs := #[.int .i64 1, .int .i64 3]) (e := 3) (fun w => by kernel_rfl) rfl (fun b23 => ?_)
 refine TL.callV hF (at_fn) rfl rfl ?_
 refine TL.freeze ([[(b23, Obj.cells #[.int .i64 1, .int .i64 3] 3 (0, 0))], [(b21, Obj.cells #[.int .i64 1, .int .i64 2] 3 (0, 0))]]) rfl (fun S2 w2 hz2 => ?_)
 replace hb := hb.frz hz2
 replace h17 := h17.old hz2
 replace h18 := h18.old hz2
 replace h19 := h19.old hz2
 have h21 : Row S2 w2 [] (some ⟨b21, 0, none⟩) (ints [1, 2]) := (row_own (η := [[(b23, Obj.cells #[.int .i64 1, .int .i64 3] 3 (0, 0))], [(b21, Obj.cells #[.int .i64 1, .int .i64 2] 3 (0, 0))]]) (cs := [.int .i64 1, .int .i64 2]) (e := 3) (by simp)).frz hz2
 have h23 : Row S2 w2 [] (some ⟨b23, 0, none⟩) (ints [1, 3]) := (row_own (η := [[(b23, Obj.cells #[.int .i64 1, .int .i64 3] 3 (0, 0))], [(b21, Obj.cells #[.int .i64 1, .int .i64 2] 3 (0, 0))]]) (cs := [.int .i64 1, .int .i64 3]) (e := 3) (by simp)).frz hz2
 refine TL.call hF (Less_prog h21 h23 (by simp) (by simp)) rfl rfl ?_
 rintro _ _ h
 obtain ⟨rfl, segs, rfl⟩ := h.lit (show lessS [1, 2] [1, 3] = (true, 0) by decide +kernel)
 refine TL.hsub _ (List.sublist_append_right _ _) ?_
 refine TL.move hF rfl rfl ?_
 refine TL.extract hF rfl rfl rfl ?_
 refine TL.extract hF rfl rfl rfl ?_
 refine TL.assign hF rfl rfl ?_
 refine TL.assign hF rfl rfl ?_
 refine TL.nil ?_
 refine TQ.then_n ?_
 refine T.seq ?_
 refine T.region ?_
 refine TL.buildSlice hF rfl (cs := #[.int .i64 1, .int .i64 2]) (e := 3) (fun w => by kernel_rfl) rfl (fun b29 => ?_)
 refine TL.callV hF (at_fn) rfl rfl ?_
 refine TL.buildSlice hF rfl (cs := #[.int .i64 2, .int .i64 1]) (e := 3) (fun w => by kernel_rfl) rfl (fun b31 => ?_)
 refine TL.callV hF (at_fn) rfl rfl ?_
 refine TL.freeze ([[(b31, Obj.cells #[.int .i64 2, .int .i64 1] 3 (0, 0))], [(b29, Obj.cells #[.int .i64 1, .int .i64 2] 3 (0, 0))]]) rfl (fun S3 w3 hz3 => ?_)
 replace hb := hb.frz hz3
 replace h17 := h17.old hz3
 replace h18 := h18.old hz3
 replace h19 := h19.old hz3
 have h29 : Row S3 w3 [] (some ⟨b29, 0, none⟩) (ints [1, 2]) := (row_own (η := [[(b31, Obj.cells #[.int .i64 2, .int .i64 1] 3 (0, 0))], [(b29, Obj.cells #[.int .i64 1, .int .i64 2] 3 (0, 0))]]) (cs := [.int .i64 1, .int .i64 2]) (e := 3) (by simp)).frz hz3
 have h31 : Row S3 w3 [] (some ⟨b31, 0, none⟩) (ints [2, 1]) := (row_own (η := [[(b31, Obj.cells #[.int .i64 2, .int .i64 1] 3 (0, 0))], [(b29, Obj.cells #[.int .i64 1, .int .i64 2] 3 (0, 0))]]) (cs := [.int .i64 2, .int .i64 1]) (e := 3) (by simp)).frz hz3
 refine TL.call hF (Less_prog h29 h31 (by simp) (by simp)) rfl rfl ?_
 rintro _ _ h
 obtain ⟨rfl, segs, rfl⟩ := h.lit (show lessS [1, 2] [2, 1] = (false, 0) by decide +kernel)
 refine TL.hsub _ (List.sublist_append_right _ _) ?_
 refine TL.move hF rfl rfl ?_
 refine TL.extract hF rfl rfl rfl ?_
 refine TL.extract hF rfl rfl rfl ?_
 refine TL.assign hF rfl rfl ?_
 refine TL.assign hF rfl rfl ?_
 refine TL.nil ?_
 refine TQ.then_n ?_
 refine T.seq ?_
 refine T.region ?_
 refine TL.buildSlice hF rfl (cs := #[.int .i64 1, .int .i64 2]) (e := 3) (fun w => by kernel_rfl) rfl (fun b37 => ?_)
 refine TL.callV hF (at_fn) rfl rfl ?_
 refine TL.buildSlice hF rfl (cs := #[.int .i64 2, .int .i64 1]) (e := 3) (fun w => by kernel_rfl) rfl (fun b39 => ?_)
 refine TL.callV hF (at_fn) rfl rfl ?_
 refine TL.freeze ([[(b39, Obj.cells #[.int .i64 2, .int .i64 1] 3 (0, 0))], [(b37, Obj.cells #[.int .i64 1, .int .i64 2] 3 (0, 0))]]) rfl (fun S4 w4 hz4 => ?_)
 replace hb := hb.frz hz4
 replace h17 := h17.old hz4
 replace h18 := h18.old hz4
 replace h19 := h19.old hz4
 have h37 : Row S4 w4 [] (some ⟨b37, 0, none⟩) (ints [1, 2]) := (row_own (η := [[(b39, Obj.cells #[.int .i64 2, .int .i64 1] 3 (0, 0))], [(b37, Obj.cells #[.int .i64 1, .int .i64 2] 3 (0, 0))]]) (cs := [.int .i64 1, .int .i64 2]) (e := 3) (by simp)).frz hz4
 have h39 : Row S4 w4 [] (some ⟨b39, 0, none⟩) (ints [2, 1]) := (row_own (η := [[(b39, Obj.cells #[.int .i64 2, .int .i64 1] 3 (0, 0))], [(b37, Obj.cells #[.int .i64 1, .int .i64 2] 3 (0, 0))]]) (cs := [.int .i64 2, .int .i64 1]) (e := 3) (by simp)).frz hz4
 refine TL.call hF (Meet_prog h37 h39 (by simp) (by simp)) rfl rfl ?_
 rintro _ _ h
 obtain ⟨a6, c6, segs, rfl, h6, rfl⟩ := h.lit (show meetS [1, 2] [2, 1] = ([1, 1], 0) by decide +kernel)
 refine TL.freeze (segs) rfl (fun S5 w5 hz5 => ?_)
 replace hb := hb.frz hz5
 replace h17 := h17.old hz5
 replace h18 := h18.old hz5
 replace h19 := h19.old hz5
 replace h37 := h37.old hz5
 replace h39 := h39.old hz5
 replace h6 := h6.frz hz5
 refine TL.move hF rfl rfl ?_
 refine TL.extract hF rfl rfl rfl ?_
 refine TL.extract hF rfl rfl rfl ?_
 refine TL.assign hF rfl rfl ?_
 refine TL.assign hF rfl rfl ?_
 refine TL.nil ?_
 refine TQ.then_n ?_
 refine T.seq ?_
 refine T.region ?_
 refine TL.buildSlice hF rfl (cs := #[.int .i64 1, .int .i64 2]) (e := 3) (fun w => by kernel_rfl) rfl (fun b45 => ?_)
 refine TL.callV hF (at_fn) rfl rfl ?_
 refine TL.buildSlice hF rfl (cs := #[.int .i64 2, .int .i64 1]) (e := 3) (fun w => by kernel_rfl) rfl (fun b47 => ?_)
 refine TL.callV hF (at_fn) rfl rfl ?_
 refine TL.freeze ([[(b47, Obj.cells #[.int .i64 2, .int .i64 1] 3 (0, 0))], [(b45, Obj.cells #[.int .i64 1, .int .i64 2] 3 (0, 0))]]) rfl (fun S6 w6 hz6 => ?_)
 replace hb := hb.frz hz6
 replace h17 := h17.old hz6
 replace h18 := h18.old hz6
 replace h19 := h19.old hz6
 replace h6 := h6.old hz6
 have h45 : Row S6 w6 [] (some ⟨b45, 0, none⟩) (ints [1, 2]) := (row_own (η := [[(b47, Obj.cells #[.int .i64 2, .int .i64 1] 3 (0, 0))], [(b45, Obj.cells #[.int .i64 1, .int .i64 2] 3 (0, 0))]]) (cs := [.int .i64 1, .int .i64 2]) (e := 3) (by simp)).frz hz6
 have h47 : Row S6 w6 [] (some ⟨b47, 0, none⟩) (ints [2, 1]) := (row_own (η := [[(b47, Obj.cells #[.int .i64 2, .int .i64 1] 3 (0, 0))], [(b45, Obj.cells #[.int .i64 1, .int .i64 2] 3 (0, 0))]]) (cs := [.int .i64 2, .int .i64 1]) (e := 3) (by simp)).frz hz6
 refine TL.call hF (Join_prog h45 h47 (by simp) (by simp)) rfl rfl ?_
 rintro _ _ h
 obtain ⟨a8, c8, segs, rfl, h8, rfl⟩ := h.lit (show joinS [1, 2] [2, 1] = ([2, 2], 0) by decide +kernel)
 refine TL.freeze (segs) rfl (fun S7 w7 hz7 => ?_)
 replace hb := hb.frz hz7
 replace h17 := h17.old hz7
 replace h18 := h18.old hz7
 replace h19 := h19.old hz7
 replace h6 := h6.old hz7
 replace h45 := h45.old hz7
 replace h47 := h47.old hz7
 replace h8 := h8.frz hz7
 refine TL.move hF rfl rfl ?_
 refine TL.extract hF rfl rfl rfl ?_
 refine TL.extract hF rfl rfl rfl ?_
 refine TL.assign hF rfl rfl ?_
 refine TL.assign hF rfl rfl ?_
 refine TL.nil ?_
 refine TQ.then_n ?_
 refine T.seq ?_
 refine T.region ?_
 refine TL.buildSlice hF rfl (cs := #[.int .i64 2, .int .i64 1]) (e := 3) (fun w => by kernel_rfl) rfl (fun b53 => ?_)
 refine TL.buildSlice hF rfl (cs := #[.int .i64 1, .int .i64 2]) (e := 3) (fun w => by kernel_rfl) rfl (fun b54 => ?_)
 refine TL.buildSlice hF rfl (cs := #[.int .i64 2, .int .i64 2]) (e := 3) (fun w => by kernel_rfl) rfl (fun b55 => ?_)
 refine TL.buildSlice hF rfl (cs := #[.int .i64 1, .int .i64 2]) (e := 3) (fun w => by kernel_rfl) rfl (fun b56 => ?_)
 refine TL.buildSlice hF rfl (cs := #[.slice (some ⟨b53, 0, none⟩) 2 2, .slice (some ⟨b54, 0, none⟩) 2 2, .slice (some ⟨b55, 0, none⟩) 2 2, .slice (some ⟨b56, 0, none⟩) 2 2]) (e := 22) (fun w => by kernel_rfl) rfl (fun b57 => ?_)
 refine TL.freeze ([[(b57, Obj.cells #[.slice (some ⟨b53, 0, none⟩) 2 2, .slice (some ⟨b54, 0, none⟩) 2 2, .slice (some ⟨b55, 0, none⟩) 2 2, .slice (some ⟨b56, 0, none⟩) 2 2] 22 (0, 0))], [(b56, Obj.cells #[.int .i64 1, .int .i64 2] 3 (0, 0))], [(b55, Obj.cells #[.int .i64 2, .int .i64 2] 3 (0, 0))], [(b54, Obj.cells #[.int .i64 1, .int .i64 2] 3 (0, 0))], [(b53, Obj.cells #[.int .i64 2, .int .i64 1] 3 (0, 0))]]) rfl (fun S8 w8 hz8 => ?_)
 replace hb := hb.frz hz8
 replace h17 := h17.old hz8
 replace h18 := h18.old hz8
 replace h19 := h19.old hz8
 replace h6 := h6.old hz8
 replace h8 := h8.old hz8
 have h53 : Row S8 w8 [] (some ⟨b53, 0, none⟩) (ints [2, 1]) := (row_own (η := [[(b57, Obj.cells #[.slice (some ⟨b53, 0, none⟩) 2 2, .slice (some ⟨b54, 0, none⟩) 2 2, .slice (some ⟨b55, 0, none⟩) 2 2, .slice (some ⟨b56, 0, none⟩) 2 2] 22 (0, 0))], [(b56, Obj.cells #[.int .i64 1, .int .i64 2] 3 (0, 0))], [(b55, Obj.cells #[.int .i64 2, .int .i64 2] 3 (0, 0))], [(b54, Obj.cells #[.int .i64 1, .int .i64 2] 3 (0, 0))], [(b53, Obj.cells #[.int .i64 2, .int .i64 1] 3 (0, 0))]]) (cs := [.int .i64 2, .int .i64 1]) (e := 3) (by simp)).frz hz8
 have h54 : Row S8 w8 [] (some ⟨b54, 0, none⟩) (ints [1, 2]) := (row_own (η := [[(b57, Obj.cells #[.slice (some ⟨b53, 0, none⟩) 2 2, .slice (some ⟨b54, 0, none⟩) 2 2, .slice (some ⟨b55, 0, none⟩) 2 2, .slice (some ⟨b56, 0, none⟩) 2 2] 22 (0, 0))], [(b56, Obj.cells #[.int .i64 1, .int .i64 2] 3 (0, 0))], [(b55, Obj.cells #[.int .i64 2, .int .i64 2] 3 (0, 0))], [(b54, Obj.cells #[.int .i64 1, .int .i64 2] 3 (0, 0))], [(b53, Obj.cells #[.int .i64 2, .int .i64 1] 3 (0, 0))]]) (cs := [.int .i64 1, .int .i64 2]) (e := 3) (by simp)).frz hz8
 have h55 : Row S8 w8 [] (some ⟨b55, 0, none⟩) (ints [2, 2]) := (row_own (η := [[(b57, Obj.cells #[.slice (some ⟨b53, 0, none⟩) 2 2, .slice (some ⟨b54, 0, none⟩) 2 2, .slice (some ⟨b55, 0, none⟩) 2 2, .slice (some ⟨b56, 0, none⟩) 2 2] 22 (0, 0))], [(b56, Obj.cells #[.int .i64 1, .int .i64 2] 3 (0, 0))], [(b55, Obj.cells #[.int .i64 2, .int .i64 2] 3 (0, 0))], [(b54, Obj.cells #[.int .i64 1, .int .i64 2] 3 (0, 0))], [(b53, Obj.cells #[.int .i64 2, .int .i64 1] 3 (0, 0))]]) (cs := [.int .i64 2, .int .i64 2]) (e := 3) (by simp)).frz hz8
 have h56 : Row S8 w8 [] (some ⟨b56, 0, none⟩) (ints [1, 2]) := (row_own (η := [[(b57, Obj.cells #[.slice (some ⟨b53, 0, none⟩) 2 2, .slice (some ⟨b54, 0, none⟩) 2 2, .slice (some ⟨b55, 0, none⟩) 2 2, .slice (some ⟨b56, 0, none⟩) 2 2] 22 (0, 0))], [(b56, Obj.cells #[.int .i64 1, .int .i64 2] 3 (0, 0))], [(b55, Obj.cells #[.int .i64 2, .int .i64 2] 3 (0, 0))], [(b54, Obj.cells #[.int .i64 1, .int .i64 2] 3 (0, 0))], [(b53, Obj.cells #[.int .i64 2, .int .i64 1] 3 (0, 0))]]) (cs := [.int .i64 1, .int .i64 2]) (e := 3) (by simp)).frz hz8
 have h57 : LL S8 w8 [] (some ⟨b57, 0, none⟩) [(some ⟨b53, 0, none⟩, [2, 1], 2), (some ⟨b54, 0, none⟩, [1, 2], 2), (some ⟨b55, 0, none⟩, [2, 2], 2), (some ⟨b56, 0, none⟩, [1, 2], 2)] := ⟨(row_own (η := [[(b57, Obj.cells #[.slice (some ⟨b53, 0, none⟩) 2 2, .slice (some ⟨b54, 0, none⟩) 2 2, .slice (some ⟨b55, 0, none⟩) 2 2, .slice (some ⟨b56, 0, none⟩) 2 2] 22 (0, 0))], [(b56, Obj.cells #[.int .i64 1, .int .i64 2] 3 (0, 0))], [(b55, Obj.cells #[.int .i64 2, .int .i64 2] 3 (0, 0))], [(b54, Obj.cells #[.int .i64 1, .int .i64 2] 3 (0, 0))], [(b53, Obj.cells #[.int .i64 2, .int .i64 1] 3 (0, 0))]]) (cs := [.slice (some ⟨b53, 0, none⟩) 2 2, .slice (some ⟨b54, 0, none⟩) 2 2, .slice (some ⟨b55, 0, none⟩) 2 2, .slice (some ⟨b56, 0, none⟩) 2 2]) (e := 22) (by simp)).frz hz8, fun p hp => by
  simp only [List.mem_cons, List.not_mem_nil, or_false] at hp
  rcases hp with rfl | rfl | rfl | rfl
  ·exact h53
  ·exact h54
  ·exact h55
  ·exact h56⟩
 refine TL.call hF (Firsts_prog h57 (by simp) (by simp)) rfl rfl ?_
 rintro _ _ h
 obtain ⟨a10, c10, p10, segs, rfl, t10, h10, rfl⟩ := h.lit (show firstsS [[2, 1], [1, 2], [2, 2], [1, 2]] = ([[1, 2], [2, 1]], 0) by decide +kernel)
 refine TL.freeze (segs) rfl (fun S9 w9 hz9 => ?_)
 replace hb := hb.frz hz9
 replace h17 := h17.old hz9
 replace h18 := h18.old hz9
 replace h19 := h19.old hz9
 replace h6 := h6.old hz9
 replace h8 := h8.old hz9
 replace h53 := h53.old hz9
 replace h54 := h54.old hz9
 replace h55 := h55.old hz9
 replace h56 := h56.old hz9
 replace h57 := h57.old hz9
 replace h10 := h10.frz hz9
 refine TL.move hF rfl rfl ?_
 refine TL.extract hF rfl rfl rfl ?_
 refine TL.extract hF rfl rfl rfl ?_
 refine TL.assign hF rfl rfl ?_
 refine TL.assign hF rfl rfl ?_
 refine TL.nil ?_
 refine TQ.then_n ?_
 refine T.seq ?_
 refine T.region ?_
 refine TL.buildSlice hF rfl (cs := #[.int .i64 2, .int .i64 1]) (e := 3) (fun w => by kernel_rfl) rfl (fun b62 => ?_)
 refine TL.buildSlice hF rfl (cs := #[.int .i64 1, .int .i64 2]) (e := 3) (fun w => by kernel_rfl) rfl (fun b63 => ?_)
 refine TL.buildSlice hF rfl (cs := #[.int .i64 2, .int .i64 2]) (e := 3) (fun w => by kernel_rfl) rfl (fun b64 => ?_)
 refine TL.buildSlice hF rfl (cs := #[.int .i64 1, .int .i64 2]) (e := 3) (fun w => by kernel_rfl) rfl (fun b65 => ?_)
 refine TL.buildSlice hF rfl (cs := #[.slice (some ⟨b62, 0, none⟩) 2 2, .slice (some ⟨b63, 0, none⟩) 2 2, .slice (some ⟨b64, 0, none⟩) 2 2, .slice (some ⟨b65, 0, none⟩) 2 2]) (e := 22) (fun w => by kernel_rfl) rfl (fun b66 => ?_)
 refine TL.freeze ([[(b66, Obj.cells #[.slice (some ⟨b62, 0, none⟩) 2 2, .slice (some ⟨b63, 0, none⟩) 2 2, .slice (some ⟨b64, 0, none⟩) 2 2, .slice (some ⟨b65, 0, none⟩) 2 2] 22 (0, 0))], [(b65, Obj.cells #[.int .i64 1, .int .i64 2] 3 (0, 0))], [(b64, Obj.cells #[.int .i64 2, .int .i64 2] 3 (0, 0))], [(b63, Obj.cells #[.int .i64 1, .int .i64 2] 3 (0, 0))], [(b62, Obj.cells #[.int .i64 2, .int .i64 1] 3 (0, 0))]]) rfl (fun S10 w10 hz10 => ?_)
 replace hb := hb.frz hz10
 replace h17 := h17.old hz10
 replace h18 := h18.old hz10
 replace h19 := h19.old hz10
 replace h6 := h6.old hz10
 replace h8 := h8.old hz10
 replace h10 := h10.old hz10
 have h62 : Row S10 w10 [] (some ⟨b62, 0, none⟩) (ints [2, 1]) := (row_own (η := [[(b66, Obj.cells #[.slice (some ⟨b62, 0, none⟩) 2 2, .slice (some ⟨b63, 0, none⟩) 2 2, .slice (some ⟨b64, 0, none⟩) 2 2, .slice (some ⟨b65, 0, none⟩) 2 2] 22 (0, 0))], [(b65, Obj.cells #[.int .i64 1, .int .i64 2] 3 (0, 0))], [(b64, Obj.cells #[.int .i64 2, .int .i64 2] 3 (0, 0))], [(b63, Obj.cells #[.int .i64 1, .int .i64 2] 3 (0, 0))], [(b62, Obj.cells #[.int .i64 2, .int .i64 1] 3 (0, 0))]]) (cs := [.int .i64 2, .int .i64 1]) (e := 3) (by simp)).frz hz10
 have h63 : Row S10 w10 [] (some ⟨b63, 0, none⟩) (ints [1, 2]) := (row_own (η := [[(b66, Obj.cells #[.slice (some ⟨b62, 0, none⟩) 2 2, .slice (some ⟨b63, 0, none⟩) 2 2, .slice (some ⟨b64, 0, none⟩) 2 2, .slice (some ⟨b65, 0, none⟩) 2 2] 22 (0, 0))], [(b65, Obj.cells #[.int .i64 1, .int .i64 2] 3 (0, 0))], [(b64, Obj.cells #[.int .i64 2, .int .i64 2] 3 (0, 0))], [(b63, Obj.cells #[.int .i64 1, .int .i64 2] 3 (0, 0))], [(b62, Obj.cells #[.int .i64 2, .int .i64 1] 3 (0, 0))]]) (cs := [.int .i64 1, .int .i64 2]) (e := 3) (by simp)).frz hz10
 have h64 : Row S10 w10 [] (some ⟨b64, 0, none⟩) (ints [2, 2]) := (row_own (η := [[(b66, Obj.cells #[.slice (some ⟨b62, 0, none⟩) 2 2, .slice (some ⟨b63, 0, none⟩) 2 2, .slice (some ⟨b64, 0, none⟩) 2 2, .slice (some ⟨b65, 0, none⟩) 2 2] 22 (0, 0))], [(b65, Obj.cells #[.int .i64 1, .int .i64 2] 3 (0, 0))], [(b64, Obj.cells #[.int .i64 2, .int .i64 2] 3 (0, 0))], [(b63, Obj.cells #[.int .i64 1, .int .i64 2] 3 (0, 0))], [(b62, Obj.cells #[.int .i64 2, .int .i64 1] 3 (0, 0))]]) (cs := [.int .i64 2, .int .i64 2]) (e := 3) (by simp)).frz hz10
 have h65 : Row S10 w10 [] (some ⟨b65, 0, none⟩) (ints [1, 2]) := (row_own (η := [[(b66, Obj.cells #[.slice (some ⟨b62, 0, none⟩) 2 2, .slice (some ⟨b63, 0, none⟩) 2 2, .slice (some ⟨b64, 0, none⟩) 2 2, .slice (some ⟨b65, 0, none⟩) 2 2] 22 (0, 0))], [(b65, Obj.cells #[.int .i64 1, .int .i64 2] 3 (0, 0))], [(b64, Obj.cells #[.int .i64 2, .int .i64 2] 3 (0, 0))], [(b63, Obj.cells #[.int .i64 1, .int .i64 2] 3 (0, 0))], [(b62, Obj.cells #[.int .i64 2, .int .i64 1] 3 (0, 0))]]) (cs := [.int .i64 1, .int .i64 2]) (e := 3) (by simp)).frz hz10
 have h66 : LL S10 w10 [] (some ⟨b66, 0, none⟩) [(some ⟨b62, 0, none⟩, [2, 1], 2), (some ⟨b63, 0, none⟩, [1, 2], 2), (some ⟨b64, 0, none⟩, [2, 2], 2), (some ⟨b65, 0, none⟩, [1, 2], 2)] := ⟨(row_own (η := [[(b66, Obj.cells #[.slice (some ⟨b62, 0, none⟩) 2 2, .slice (some ⟨b63, 0, none⟩) 2 2, .slice (some ⟨b64, 0, none⟩) 2 2, .slice (some ⟨b65, 0, none⟩) 2 2] 22 (0, 0))], [(b65, Obj.cells #[.int .i64 1, .int .i64 2] 3 (0, 0))], [(b64, Obj.cells #[.int .i64 2, .int .i64 2] 3 (0, 0))], [(b63, Obj.cells #[.int .i64 1, .int .i64 2] 3 (0, 0))], [(b62, Obj.cells #[.int .i64 2, .int .i64 1] 3 (0, 0))]]) (cs := [.slice (some ⟨b62, 0, none⟩) 2 2, .slice (some ⟨b63, 0, none⟩) 2 2, .slice (some ⟨b64, 0, none⟩) 2 2, .slice (some ⟨b65, 0, none⟩) 2 2]) (e := 22) (by simp)).frz hz10, fun p hp => by
  simp only [List.mem_cons, List.not_mem_nil, or_false] at hp
  rcases hp with rfl | rfl | rfl | rfl
  ·exact h62
  ·exact h63
  ·exact h64
  ·exact h65⟩
 refine TL.call hF (Lasts_prog h66 (by simp) (by simp)) rfl rfl ?_
 rintro _ _ h
 obtain ⟨a12, c12, p12, segs, rfl, t12, h12, rfl⟩ := h.lit (show lastsS [[2, 1], [1, 2], [2, 2], [1, 2]] = ([[2, 2]], 0) by decide +kernel)
 refine TL.freeze (segs) rfl (fun S11 w11 hz11 => ?_)
 replace hb := hb.frz hz11
 replace h17 := h17.old hz11
 replace h18 := h18.old hz11
 replace h19 := h19.old hz11
 replace h6 := h6.old hz11
 replace h8 := h8.old hz11
 replace h10 := h10.old hz11
 replace h62 := h62.old hz11
 replace h63 := h63.old hz11
 replace h64 := h64.old hz11
 replace h65 := h65.old hz11
 replace h66 := h66.old hz11
 replace h12 := h12.frz hz11
 refine TL.move hF rfl rfl ?_
 refine TL.extract hF rfl rfl rfl ?_
 refine TL.extract hF rfl rfl rfl ?_
 refine TL.assign hF rfl rfl ?_
 refine TL.assign hF rfl rfl ?_
 refine TL.nil ?_
 refine TQ.then_n ?_
 refine T.seq ?_
 refine T.seq ?_
 refine T.region ?_
 refine TL.move hF rfl rfl ?_
 refine TL.bin hF rfl rfl rfl rfl ?_
 refine TL.move hF rfl rfl ?_
 refine TL.on rfl rfl rfl rfl ?_
 refine TL.move hF rfl rfl ?_
 refine TL.on rfl rfl rfl rfl ?_
 refine TL.bin hF rfl rfl rfl rfl ?_
 refine TL.pickF hF rfl rfl rfl rfl ?_
 refine TL.move hF rfl rfl ?_
 refine TL.on rfl rfl rfl rfl ?_
 refine TL.move hF rfl rfl ?_
 refine TL.on rfl rfl rfl rfl ?_
 refine TL.bin hF rfl rfl rfl rfl ?_
 refine TL.pickF hF rfl rfl rfl rfl ?_
 refine TL.move hF rfl rfl ?_
 refine TL.on rfl rfl rfl rfl ?_
 refine TL.move hF rfl rfl ?_
 refine TL.on rfl rfl rfl rfl ?_
 refine TL.bin hF rfl rfl rfl rfl ?_
 refine TL.pickF hF rfl rfl rfl rfl ?_
 refine TL.move hF rfl rfl ?_
 refine TL.on rfl rfl rfl rfl ?_
 refine TL.move hF rfl rfl ?_
 refine TL.on rfl rfl rfl rfl ?_
 refine TL.bin hF rfl rfl rfl rfl ?_
 refine TL.pickF hF rfl rfl rfl rfl ?_
 refine TL.move hF rfl rfl ?_
 refine TL.on rfl rfl rfl rfl ?_
 refine TL.move hF rfl rfl ?_
 refine TL.on rfl rfl rfl rfl ?_
 refine TL.bin hF rfl rfl rfl rfl ?_
 refine TL.pickF hF rfl rfl rfl rfl ?_
 refine TL.move hF rfl rfl ?_
 refine TL.on rfl rfl rfl rfl ?_
 refine TL.move hF rfl rfl ?_
 refine TL.on rfl rfl rfl rfl ?_
 refine TL.not hF rfl rfl ?_
 refine TL.pickF hF rfl rfl rfl rfl ?_
 refine TL.move hF rfl rfl ?_
 refine TL.on rfl rfl rfl rfl ?_
 refine TL.move hF rfl rfl ?_
 refine TL.pickF hF rfl rfl rfl rfl ?_
 refine TL.move hF rfl rfl ?_
 refine TL.on rfl rfl rfl rfl ?_
 refine TL.move hF rfl rfl ?_
 refine TL.on rfl rfl rfl rfl ?_
 refine TL.buildSlice hF rfl (cs := #[.int .i64 1, .int .i64 1]) (e := 3) (fun w => by kernel_rfl) rfl (fun b101 => ?_)
 refine TL.on rfl rfl rfl rfl ?_
 refine TL.callV hF (at_fn) rfl rfl ?_
 refine TL.on rfl rfl rfl rfl ?_
 refine TL.callV hF (Equal_fn (ys := [1, 1]) h6.ro (row_own (cs := [.int .i64 1, .int .i64 1]) (e := 3) (b := b101) (by simp)) (by simp)) rfl rfl ?_
 refine TL.on rfl rfl rfl rfl ?_
 refine TL.not hF rfl rfl ?_
 refine TL.pickF hF rfl rfl rfl rfl ?_
 refine TL.move hF rfl rfl ?_
 refine TL.on rfl rfl rfl rfl ?_
 refine TL.move hF rfl rfl ?_
 refine TL.on rfl rfl rfl rfl ?_
 refine TL.buildSlice hF rfl (cs := #[.int .i64 2, .int .i64 2]) (e := 3) (fun w => by kernel_rfl) rfl (fun b108 => ?_)
 refine TL.on rfl rfl rfl rfl ?_
 refine TL.callV hF (at_fn) rfl rfl ?_
 refine TL.on rfl rfl rfl rfl ?_
 refine TL.callV hF (Equal_fn (ys := [2, 2]) h8.ro (row_own (cs := [.int .i64 2, .int .i64 2]) (e := 3) (b := b108) (by simp)) (by simp)) rfl rfl ?_
 refine TL.on rfl rfl rfl rfl ?_
 refine TL.not hF rfl rfl ?_
 refine TL.pickF hF rfl rfl rfl rfl ?_
 refine TL.move hF rfl rfl ?_
 refine TL.on rfl rfl rfl rfl ?_
 refine TL.move hF rfl rfl ?_
 refine TL.on rfl rfl rfl rfl ?_
 refine TL.move hF rfl rfl ?_
 refine TL.on rfl rfl rfl rfl ?_
 refine TL.callV hF (EqL_lit (L := [[1, 2], [2, 1]]) h10.ro h19.ro t10 rfl (by decide) (by decide)) rfl rfl ?_
 refine TL.on rfl rfl rfl rfl ?_
 refine TL.not hF rfl rfl ?_
 refine TL.pickF hF rfl rfl rfl rfl ?_
 refine TL.move hF rfl rfl ?_
 refine TL.on rfl rfl rfl rfl ?_
 refine TL.move hF rfl rfl ?_
 refine TL.on rfl rfl rfl rfl ?_
 refine TL.buildSlice hF rfl (cs := #[.int .i64 2, .int .i64 2]) (e := 3) (fun w => by kernel_rfl) rfl (fun b121 => ?_)
 refine TL.on rfl rfl rfl rfl ?_
 refine TL.buildSlice hF rfl (cs := #[.slice (some ⟨b121, 0, none⟩) 2 2]) (e := 22) (fun w => by kernel_rfl) rfl (fun b122 => ?_)
 refine TL.on rfl rfl rfl rfl ?_
 refine TL.callV hF (EqL_lit (L := [[2, 2]]) h12.ro (show LL _ _ _ (some ⟨b122, 0, none⟩) [(some ⟨b121, 0, none⟩, [2, 2], 2)] from ⟨row_own (cs := [.slice (some ⟨b121, 0, none⟩) 2 2]) (e := 22) (b := b122) (by simp), fun p hp => by
  simp only [List.mem_cons, List.not_mem_nil, or_false] at hp
  subst hp
  exact (row_own (cs := [.int .i64 2, .int .i64 2]) (e := 3) (b := b121) (by simp))⟩) t12 rfl (by decide) (by decide)) rfl rfl ?_
 refine TL.on rfl rfl rfl rfl ?_
 refine TL.not hF rfl rfl ?_
 refine TL.pickF hF rfl rfl rfl rfl ?_
 refine TL.nil ?_
 refine TQ.then_n ?_
 refine T.cond_f rfl rfl ?_
 refine T.skip ?_
 refine TQ.then_n ?_
 refine T.seq ?_
 refine T.region ?_
 refine TL.move hF rfl rfl ?_
 refine TL.hsub η (skR (skR (skR (skR (List.Sublist.refl _))))) ?_
 refine TL.buildSlice hF rfl (cs := #[.int .i64 2, .int .i64 2]) (e := 3) (fun w => by kernel_rfl) rfl (fun b128 => ?_)
 refine TL.callV hF (at_fn) rfl rfl ?_
 refine TL.freeze ([[(b128, Obj.cells #[.int .i64 2, .int .i64 2] 3 (0, 0))]]) rfl (fun S12 w12 hz12 => ?_)
 replace hb := hb.frz hz12
 replace h17 := h17.old hz12
 replace h18 := h18.old hz12
 replace h19 := h19.old hz12
 have h128 : Row S12 w12 [] (some ⟨b128, 0, none⟩) (ints [2, 2]) := (row_own (η := [[(b128, Obj.cells #[.int .i64 2, .int .i64 2] 3 (0, 0))]]) (cs := [.int .i64 2, .int .i64 2]) (e := 3) (by simp)).frz hz12
 refine TL.call hF (Beyond_prog h19 h128 (by simp) (by simp) (by simp)) rfl rfl ?_
 rintro _ _ h
 obtain ⟨rfl, segs, rfl⟩ := h.lit (show beyondS [[1, 2], [2, 1]] [2, 2] = (true, 0) by decide +kernel)
 refine TL.hsub _ (List.sublist_append_right _ _) ?_
 refine TL.move hF rfl rfl ?_
 refine TL.extract hF rfl rfl rfl ?_
 refine TL.extract hF rfl rfl rfl ?_
 refine TL.assign hF rfl rfl ?_
 refine TL.assign hF rfl rfl ?_
 refine TL.nil ?_
 refine TQ.then_n ?_
 refine T.seq ?_
 refine T.region ?_
 refine TL.move hF rfl rfl ?_
 refine TL.buildSlice hF rfl (cs := #[.int .i64 1, .int .i64 1]) (e := 3) (fun w => by kernel_rfl) rfl (fun b135 => ?_)
 refine TL.callV hF (at_fn) rfl rfl ?_
 refine TL.freeze ([[(b135, Obj.cells #[.int .i64 1, .int .i64 1] 3 (0, 0))]]) rfl (fun S13 w13 hz13 => ?_)
 replace hb := hb.frz hz13
 replace h17 := h17.old hz13
 replace h18 := h18.old hz13
 replace h19 := h19.old hz13
 have h135 : Row S13 w13 [] (some ⟨b135, 0, none⟩) (ints [1, 1]) := (row_own (η := [[(b135, Obj.cells #[.int .i64 1, .int .i64 1] 3 (0, 0))]]) (cs := [.int .i64 1, .int .i64 1]) (e := 3) (by simp)).frz hz13
 refine TL.call hF (Beyond_prog h19 h135 (by simp) (by simp) (by simp)) rfl rfl ?_
 rintro _ _ h
 obtain ⟨rfl, segs, rfl⟩ := h.lit (show beyondS [[1, 2], [2, 1]] [1, 1] = (false, 0) by decide +kernel)
 refine TL.hsub _ (List.sublist_append_right _ _) ?_
 refine TL.move hF rfl rfl ?_
 refine TL.extract hF rfl rfl rfl ?_
 refine TL.extract hF rfl rfl rfl ?_
 refine TL.assign hF rfl rfl ?_
 refine TL.assign hF rfl rfl ?_
 refine TL.nil ?_
 refine TQ.then_n ?_
 refine T.seq ?_
 refine T.drawH 9 mixed ?_
 refine DH.pure (i := 0) [(1, _, none)] rfl rfl rfl rfl ⟨⟨rfl, by kernel_rfl⟩, trivial⟩ (fun _ ext => TL.move hF rfl rfl TL.fin) ?_
 refine DH.pure (i := 1) [(141, _, some 0)] rfl rfl rfl rfl ⟨⟨rfl, rfl, rfl⟩, trivial⟩ (fun _ ext => TL.slice hF (i := 0) (j := 1) rfl rfl rfl (by omega) (by omega) rfl TL.fin) ?_
 refine DH.pure (i := 2) [(1, _, none)] rfl rfl rfl rfl ⟨⟨rfl, by kernel_rfl⟩, trivial⟩ (fun _ ext => TL.move hF rfl rfl TL.fin) ?_
 refine DH.pure (i := 3) [(143, _, some 2)] rfl rfl rfl rfl ⟨⟨rfl, rfl, rfl⟩, trivial⟩ (fun _ ext => TL.slice hF (i := 1) (j := 2) rfl rfl rfl (by omega) (by omega) rfl TL.fin) ?_
 refine DH.heavy 4 [(142, _, some 1), (144, _, some 3)] (by kernel_rfl) (by kernel_rfl) (by kernel_rfl) (by kernel_rfl) rfl rfl rfl rfl ⟨⟨rfl, rfl, rfl⟩, ⟨rfl, rfl, rfl⟩, trivial⟩ (by kernel_rfl) (fun ext => ?_)
 refine TL.call hF (Either_prog (h19.part (c := 2) (i := 0) (j := 1) (by simp) (by omega) (by omega)) (h19.part (c := 2) (i := 1) (j := 2) (by simp) (by omega) (by omega)) (by simp) (by simp) (by simp) (by simp)) rfl rfl ?_
 rintro _ _ h
 obtain ⟨a20, c20, p20, segs, rfl, t20, h20, rfl⟩ := h.lit (show eitherS [[1, 2]] [[2, 1]] = ([[1, 2], [2, 1]], 0) by decide +kernel)
 refine TL.finD ?_
 refine DH.pure (i := 5) [(145, _, some 4)] rfl rfl rfl rfl ⟨⟨rfl, rfl, rfl⟩, trivial⟩ (fun _ ext => TL.move hF rfl rfl TL.fin) ?_
 refine DH.pure (i := 6) [(140, _, some 5)] rfl rfl rfl rfl ⟨⟨rfl, rfl, rfl⟩, trivial⟩ (fun _ ext => TL.extract hF rfl rfl rfl TL.fin) ?_
 refine DH.pure (i := 7) [(140, _, some 5)] rfl rfl rfl rfl ⟨⟨rfl, rfl, rfl⟩, trivial⟩ (fun _ ext => TL.extract hF rfl rfl rfl TL.fin) ?_
 refine DH.pure (i := 8) [(146, _, some 6)] rfl rfl rfl rfl ⟨⟨rfl, rfl, rfl⟩, trivial⟩ (fun _ ext => TL.assign hF rfl rfl TL.fin) ?_
 refine DH.done [(10, _), (147, _), (146, _), (140, _), (145, _), (144, _), (143, _), (142, _), (141, _)] [_] (by kernel_rfl) (by kernel_rfl) (by kernel_rfl) (by kernel_rfl) rfl rfl ?_
 refine TL.assign hF rfl rfl ?_
 refine TL.nil ?_
 refine TQ.then_n ?_
 refine T.seq ?_
 refine T.freeze (segs) rfl (fun S14 w14 hz14 => ?_)
 replace hb := hb.frz hz14
 replace h17 := h17.old hz14
 replace h18 := h18.old hz14
 replace h19 := h19.old hz14
 replace h20 := h20.frz hz14
 refine T.drawH 9 mixed ?_
 refine DH.pure (i := 0) [(1, _, none)] rfl rfl rfl rfl ⟨⟨rfl, by kernel_rfl⟩, trivial⟩ (fun _ ext => TL.move hF rfl rfl TL.fin) ?_
 refine DH.pure (i := 1) [(149, _, some 0)] rfl rfl rfl rfl ⟨⟨rfl, rfl, rfl⟩, trivial⟩ (fun _ ext => TL.slice hF (i := 0) (j := 1) rfl rfl rfl (by omega) (by omega) rfl TL.fin) ?_
 refine DH.pure (i := 2) [(1, _, none)] rfl rfl rfl rfl ⟨⟨rfl, by kernel_rfl⟩, trivial⟩ (fun _ ext => TL.move hF rfl rfl TL.fin) ?_
 refine DH.pure (i := 3) [(151, _, some 2)] rfl rfl rfl rfl ⟨⟨rfl, rfl, rfl⟩, trivial⟩ (fun _ ext => TL.slice hF (i := 1) (j := 2) rfl rfl rfl (by omega) (by omega) rfl TL.fin) ?_
 refine DH.heavy 4 [(150, _, some 1), (152, _, some 3)] (by kernel_rfl) (by kernel_rfl) (by kernel_rfl) (by kernel_rfl) rfl rfl rfl rfl ⟨⟨rfl, rfl, rfl⟩, ⟨rfl, rfl, rfl⟩, trivial⟩ (by kernel_rfl) (fun ext => ?_)
 refine TL.call hF (Both_prog (h19.part (c := 2) (i := 0) (j := 1) (by simp) (by omega) (by omega)) (h19.part (c := 2) (i := 1) (j := 2) (by simp) (by omega) (by omega)) (by simp) (by simp) (by simp) (by simp)) rfl rfl ?_
 rintro _ _ h
 obtain ⟨a22, c22, p22, segs, rfl, t22, h22, rfl⟩ := h.lit (show bothS [[1, 2]] [[2, 1]] = ([[2, 2]], 0) by decide +kernel)
 refine TL.finD ?_
 refine DH.pure (i := 5) [(153, _, some 4)] rfl rfl rfl rfl ⟨⟨rfl, rfl, rfl⟩, trivial⟩ (fun _ ext => TL.move hF rfl rfl TL.fin) ?_
 refine DH.pure (i := 6) [(148, _, some 5)] rfl rfl rfl rfl ⟨⟨rfl, rfl, rfl⟩, trivial⟩ (fun _ ext => TL.extract hF rfl rfl rfl TL.fin) ?_
 refine DH.pure (i := 7) [(148, _, some 5)] rfl rfl rfl rfl ⟨⟨rfl, rfl, rfl⟩, trivial⟩ (fun _ ext => TL.extract hF rfl rfl rfl TL.fin) ?_
 refine DH.pure (i := 8) [(154, _, some 6)] rfl rfl rfl rfl ⟨⟨rfl, rfl, rfl⟩, trivial⟩ (fun _ ext => TL.assign hF rfl rfl TL.fin) ?_
 refine DH.done [(12, _), (155, _), (154, _), (148, _), (153, _), (152, _), (151, _), (150, _), (149, _)] [_] (by kernel_rfl) (by kernel_rfl) (by kernel_rfl) (by kernel_rfl) rfl rfl ?_
 refine TL.assign hF rfl rfl ?_
 refine TL.nil ?_
 refine TQ.then_n ?_
 refine T.seq ?_
 refine T.region ?_
 refine TL.move hF rfl rfl ?_
 refine TL.freeze (segs) rfl (fun S15 w15 hz15 => ?_)
 replace hb := hb.frz hz15
 replace h17 := h17.old hz15
 replace h18 := h18.old hz15
 replace h19 := h19.old hz15
 replace h20 := h20.old hz15
 replace h22 := h22.frz hz15
 refine TL.buildSlice hF rfl (cs := #[.int .i64 0, .int .i64 3]) (e := 3) (fun w => by kernel_rfl) rfl (fun b158 => ?_)
 refine TL.callV hF (at_fn) rfl rfl ?_
 refine TL.freeze ([[(b158, Obj.cells #[.int .i64 0, .int .i64 3] 3 (0, 0))]]) rfl (fun S16 w16 hz16 => ?_)
 replace hb := hb.frz hz16
 replace h17 := h17.old hz16
 replace h18 := h18.old hz16
 replace h19 := h19.old hz16
 replace h20 := h20.old hz16
 replace h22 := h22.old hz16
 have h158 : Row S16 w16 [] (some ⟨b158, 0, none⟩) (ints [0, 3]) := (row_own (η := [[(b158, Obj.cells #[.int .i64 0, .int .i64 3] 3 (0, 0))]]) (cs := [.int .i64 0, .int .i64 3]) (e := 3) (by simp)).frz hz16
 refine TL.call hF (Seen_prog h19 h158 (by simp) (by simp) (by simp)) rfl rfl ?_
 rintro _ _ h
 obtain ⟨a24, c24, segs, rfl, h24, rfl⟩ := h.lit (show seenS [[1, 2], [2, 1]] [0, 3] = ([1, 3], 0) by decide +kernel)
 refine TL.freeze (segs) rfl (fun S17 w17 hz17 => ?_)
 replace hb := hb.frz hz17
 replace h17 := h17.old hz17
 replace h18 := h18.old hz17
 replace h19 := h19.old hz17
 replace h20 := h20.old hz17
 replace h22 := h22.old hz17
 replace h158 := h158.old hz17
 replace h24 := h24.frz hz17
 refine TL.move hF rfl rfl ?_
 refine TL.extract hF rfl rfl rfl ?_
 refine TL.extract hF rfl rfl rfl ?_
 refine TL.assign hF rfl rfl ?_
 refine TL.assign hF rfl rfl ?_
 refine TL.nil ?_
 refine TQ.then_n ?_
 refine T.seq ?_
 refine T.region ?_
 refine TL.buildSlice hF rfl (cs := #[.int .i64 1, .int .i64 9]) (e := 3) (fun w => by kernel_rfl) rfl (fun b164 => ?_)
 refine TL.callV hF (at_fn) rfl rfl ?_
 refine TL.freeze ([[(b164, Obj.cells #[.int .i64 1, .int .i64 9] 3 (0, 0))]]) rfl (fun S18 w18 hz18 => ?_)
 replace hb := hb.frz hz18
 replace h17 := h17.old hz18
 replace h18 := h18.old hz18
 replace h19 := h19.old hz18
 replace h20 := h20.old hz18
 replace h22 := h22.old hz18
 replace h24 := h24.old hz18
 have h164 : Row S18 w18 [] (some ⟨b164, 0, none⟩) (ints [1, 9]) := (row_own (η := [[(b164, Obj.cells #[.int .i64 1, .int .i64 9] 3 (0, 0))]]) (cs := [.int .i64 1, .int .i64 9]) (e := 3) (by simp)).frz hz18
 refine TL.call hF (Seen_prog (ps := []) LL.none h164 (by simp) (by simp) (by simp)) rfl rfl ?_
 rintro _ _ h
 obtain ⟨a26, c26, segs, rfl, h26, rfl⟩ := h.lit (show seenS [] [1, 9] = ([], 4) by decide +kernel)
 refine TL.freeze (segs) rfl (fun S19 w19 hz19 => ?_)
 replace hb := hb.frz hz19
 replace h17 := h17.old hz19
 replace h18 := h18.old hz19
 replace h19 := h19.old hz19
 replace h20 := h20.old hz19
 replace h22 := h22.old hz19
 replace h24 := h24.old hz19
 replace h164 := h164.old hz19
 replace h26 := h26.frz hz19
 refine TL.move hF rfl rfl ?_
 refine TL.extract hF rfl rfl rfl ?_
 refine TL.extract hF rfl rfl rfl ?_
 refine TL.assign hF rfl rfl ?_
 refine TL.assign hF rfl rfl ?_
 refine TL.nil ?_
 refine TQ.then_n ?_
 refine T.seq ?_
 refine T.seq ?_
 refine T.region ?_
 refine TL.move hF rfl rfl ?_
 refine TL.bin hF rfl rfl rfl rfl ?_
 refine TL.move hF rfl rfl ?_
 refine TL.on rfl rfl rfl rfl ?_
 refine TL.move hF rfl rfl ?_
 refine TL.on rfl rfl rfl rfl ?_
 refine TL.bin hF rfl rfl rfl rfl ?_
 refine TL.pickF hF rfl rfl rfl rfl ?_
 refine TL.move hF rfl rfl ?_
 refine TL.on rfl rfl rfl rfl ?_
 refine TL.move hF rfl rfl ?_
 refine TL.on rfl rfl rfl rfl ?_
 refine TL.bin hF rfl rfl rfl rfl ?_
 refine TL.pickF hF rfl rfl rfl rfl ?_
 refine TL.move hF rfl rfl ?_
 refine TL.on rfl rfl rfl rfl ?_
 refine TL.move hF rfl rfl ?_
 refine TL.on rfl rfl rfl rfl ?_
 refine TL.bin hF rfl rfl rfl rfl ?_
 refine TL.pickF hF rfl rfl rfl rfl ?_
 refine TL.move hF rfl rfl ?_
 refine TL.on rfl rfl rfl rfl ?_
 refine TL.move hF rfl rfl ?_
 refine TL.on rfl rfl rfl rfl ?_
 refine TL.bin hF rfl rfl rfl rfl ?_
 refine TL.pickF hF rfl rfl rfl rfl ?_
 refine TL.move hF rfl rfl ?_
 refine TL.on rfl rfl rfl rfl ?_
 refine TL.move hF rfl rfl ?_
 refine TL.on rfl rfl rfl rfl ?_
 refine TL.bin hF rfl rfl rfl rfl ?_
 refine TL.pickF hF rfl rfl rfl rfl ?_
 refine TL.move hF rfl rfl ?_
 refine TL.on rfl rfl rfl rfl ?_
 refine TL.move hF rfl rfl ?_
 refine TL.on rfl rfl rfl rfl ?_
 refine TL.not hF rfl rfl ?_
 refine TL.pickF hF rfl rfl rfl rfl ?_
 refine TL.move hF rfl rfl ?_
 refine TL.on rfl rfl rfl rfl ?_
 refine TL.move hF rfl rfl ?_
 refine TL.pickF hF rfl rfl rfl rfl ?_
 refine TL.move hF rfl rfl ?_
 refine TL.on rfl rfl rfl rfl ?_
 refine TL.move hF rfl rfl ?_
 refine TL.on rfl rfl rfl rfl ?_
 refine TL.move hF rfl rfl ?_
 refine TL.on rfl rfl rfl rfl ?_
 refine TL.callV hF (EqL_lit (L := [[1, 2], [2, 1]]) h20.ro h19.ro t20 rfl (by decide) (by decide)) rfl rfl ?_
 refine TL.on rfl rfl rfl rfl ?_
 refine TL.not hF rfl rfl ?_
 refine TL.pickF hF rfl rfl rfl rfl ?_
 refine TL.move hF rfl rfl ?_
 refine TL.on rfl rfl rfl rfl ?_
 refine TL.move hF rfl rfl ?_
 refine TL.on rfl rfl rfl rfl ?_
 refine TL.buildSlice hF rfl (cs := #[.int .i64 2, .int .i64 2]) (e := 3) (fun w => by kernel_rfl) rfl (fun b206 => ?_)
 refine TL.on rfl rfl rfl rfl ?_
 refine TL.buildSlice hF rfl (cs := #[.slice (some ⟨b206, 0, none⟩) 2 2]) (e := 22) (fun w => by kernel_rfl) rfl (fun b207 => ?_)
 refine TL.on rfl rfl rfl rfl ?_
 refine TL.callV hF (EqL_lit (L := [[2, 2]]) h22.ro (show LL _ _ _ (some ⟨b207, 0, none⟩) [(some ⟨b206, 0, none⟩, [2, 2], 2)] from ⟨row_own (cs := [.slice (some ⟨b206, 0, none⟩) 2 2]) (e := 22) (b := b207) (by simp), fun p hp => by
  simp only [List.mem_cons, List.not_mem_nil, or_false] at hp
  subst hp
  exact (row_own (cs := [.int .i64 2, .int .i64 2]) (e := 3) (b := b206) (by simp))⟩) t22 rfl (by decide) (by decide)) rfl rfl ?_
 refine TL.on rfl rfl rfl rfl ?_
 refine TL.not hF rfl rfl ?_
 refine TL.pickF hF rfl rfl rfl rfl ?_
 refine TL.move hF rfl rfl ?_
 refine TL.on rfl rfl rfl rfl ?_
 refine TL.move hF rfl rfl ?_
 refine TL.on rfl rfl rfl rfl ?_
 refine TL.buildSlice hF rfl (cs := #[.int .i64 1, .int .i64 3]) (e := 3) (fun w => by kernel_rfl) rfl (fun b213 => ?_)
 refine TL.on rfl rfl rfl rfl ?_
 refine TL.callV hF (at_fn) rfl rfl ?_
 refine TL.on rfl rfl rfl rfl ?_
 refine TL.callV hF (Equal_fn (ys := [1, 3]) h24.ro (row_own (cs := [.int .i64 1, .int .i64 3]) (e := 3) (b := b213) (by simp)) (by simp)) rfl rfl ?_
 refine TL.on rfl rfl rfl rfl ?_
 refine TL.not hF rfl rfl ?_
 refine TL.pickF hF rfl rfl rfl rfl ?_
 refine TL.move hF rfl rfl ?_
 refine TL.on rfl rfl rfl rfl ?_
 refine TL.move hF rfl rfl ?_
 refine TL.on rfl rfl rfl rfl ?_
 refine TL.len hF rfl rfl ?_
 refine TL.on rfl rfl rfl rfl ?_
 refine TL.bin hF rfl rfl rfl rfl ?_
 refine TL.pickF hF rfl rfl rfl rfl ?_
 refine TL.nil ?_
 refine TQ.then_n ?_
 refine T.cond_f rfl rfl ?_
 refine T.skip ?_
 refine TQ.then_n ?_
 refine T.seq ?_
 refine T.region ?_
 refine TL.hsub η (skR (skR (skR (List.Sublist.refl _)))) ?_
 refine TL.buildSlice hF rfl (cs := #[.int .i64 1, .int .i64 1]) (e := 3) (fun w => by kernel_rfl) rfl (fun b224 => ?_)
 refine TL.buildSlice hF rfl (cs := #[.slice (some ⟨b224, 0, none⟩) 2 2]) (e := 22) (fun w => by kernel_rfl) rfl (fun b225 => ?_)
 refine TL.buildSlice hF rfl (cs := #[.int .i64 1, .int .i64 2]) (e := 3) (fun w => by kernel_rfl) rfl (fun b226 => ?_)
 refine TL.buildSlice hF rfl (cs := #[.slice (some ⟨b226, 0, none⟩) 2 2]) (e := 22) (fun w => by kernel_rfl) rfl (fun b227 => ?_)
 refine TL.freeze ([[(b227, Obj.cells #[.slice (some ⟨b226, 0, none⟩) 2 2] 22 (0, 0))], [(b226, Obj.cells #[.int .i64 1, .int .i64 2] 3 (0, 0))], [(b225, Obj.cells #[.slice (some ⟨b224, 0, none⟩) 2 2] 22 (0, 0))], [(b224, Obj.cells #[.int .i64 1, .int .i64 1] 3 (0, 0))]]) rfl (fun S20 w20 hz20 => ?_)
 replace hb := hb.frz hz20
 replace h17 := h17.old hz20
 replace h18 := h18.old hz20
 replace h19 := h19.old hz20
 have h224 : Row S20 w20 [] (some ⟨b224, 0, none⟩) (ints [1, 1]) := (row_own (η := [[(b227, Obj.cells #[.slice (some ⟨b226, 0, none⟩) 2 2] 22 (0, 0))], [(b226, Obj.cells #[.int .i64 1, .int .i64 2] 3 (0, 0))], [(b225, Obj.cells #[.slice (some ⟨b224, 0, none⟩) 2 2] 22 (0, 0))], [(b224, Obj.cells #[.int .i64 1, .int .i64 1] 3 (0, 0))]]) (cs := [.int .i64 1, .int .i64 1]) (e := 3) (by simp)).frz hz20
 have h225 : LL S20 w20 [] (some ⟨b225, 0, none⟩) [(some ⟨b224, 0, none⟩, [1, 1], 2)] := ⟨(row_own (η := [[(b227, Obj.cells #[.slice (some ⟨b226, 0, none⟩) 2 2] 22 (0, 0))], [(b226, Obj.cells #[.int .i64 1, .int .i64 2] 3 (0, 0))], [(b225, Obj.cells #[.slice (some ⟨b224, 0, none⟩) 2 2] 22 (0, 0))], [(b224, Obj.cells #[.int .i64 1, .int .i64 1] 3 (0, 0))]]) (cs := [.slice (some ⟨b224, 0, none⟩) 2 2]) (e := 22) (by simp)).frz hz20, fun p hp => by
  simp only [List.mem_cons, List.not_mem_nil, or_false] at hp
  subst hp
  exact h224⟩
 have h226 : Row S20 w20 [] (some ⟨b226, 0, none⟩) (ints [1, 2]) := (row_own (η := [[(b227, Obj.cells #[.slice (some ⟨b226, 0, none⟩) 2 2] 22 (0, 0))], [(b226, Obj.cells #[.int .i64 1, .int .i64 2] 3 (0, 0))], [(b225, Obj.cells #[.slice (some ⟨b224, 0, none⟩) 2 2] 22 (0, 0))], [(b224, Obj.cells #[.int .i64 1, .int .i64 1] 3 (0, 0))]]) (cs := [.int .i64 1, .int .i64 2]) (e := 3) (by simp)).frz hz20
 have h227 : LL S20 w20 [] (some ⟨b227, 0, none⟩) [(some ⟨b226, 0, none⟩, [1, 2], 2)] := ⟨(row_own (η := [[(b227, Obj.cells #[.slice (some ⟨b226, 0, none⟩) 2 2] 22 (0, 0))], [(b226, Obj.cells #[.int .i64 1, .int .i64 2] 3 (0, 0))], [(b225, Obj.cells #[.slice (some ⟨b224, 0, none⟩) 2 2] 22 (0, 0))], [(b224, Obj.cells #[.int .i64 1, .int .i64 1] 3 (0, 0))]]) (cs := [.slice (some ⟨b226, 0, none⟩) 2 2]) (e := 22) (by simp)).frz hz20, fun p hp => by
  simp only [List.mem_cons, List.not_mem_nil, or_false] at hp
  subst hp
  exact h226⟩
 refine TL.call hF (Ahead_prog h225 h227 (by simp) (by simp) (by simp) (by simp)) rfl rfl ?_
 rintro _ _ h
 obtain ⟨rfl, segs, rfl⟩ := h.lit (show aheadS [[1, 1]] [[1, 2]] = (true, 0) by decide +kernel)
 refine TL.hsub _ (List.sublist_append_right _ _) ?_
 refine TL.move hF rfl rfl ?_
 refine TL.extract hF rfl rfl rfl ?_
 refine TL.extract hF rfl rfl rfl ?_
 refine TL.assign hF rfl rfl ?_
 refine TL.assign hF rfl rfl ?_
 refine TL.nil ?_
 refine TQ.then_n ?_
 refine T.seq ?_
 refine T.region ?_
 refine TL.buildSlice hF rfl (cs := #[.int .i64 0, .int .i64 0]) (e := 3) (fun w => by kernel_rfl) rfl (fun b232 => ?_)
 refine TL.buildSlice hF rfl (cs := #[.int .i64 1, .int .i64 0]) (e := 3) (fun w => by kernel_rfl) rfl (fun b233 => ?_)
 refine TL.buildSlice hF rfl (cs := #[.int .i64 0, .int .i64 1]) (e := 3) (fun w => by kernel_rfl) rfl (fun b234 => ?_)
 refine TL.buildSlice hF rfl (cs := #[.int .i64 1, .int .i64 1]) (e := 3) (fun w => by kernel_rfl) rfl (fun b235 => ?_)
 refine TL.buildSlice hF rfl (cs := #[.slice (some ⟨b232, 0, none⟩) 2 2, .slice (some ⟨b233, 0, none⟩) 2 2, .slice (some ⟨b234, 0, none⟩) 2 2, .slice (some ⟨b235, 0, none⟩) 2 2]) (e := 22) (fun w => by kernel_rfl) rfl (fun b236 => ?_)
 refine TL.freeze ([[(b236, Obj.cells #[.slice (some ⟨b232, 0, none⟩) 2 2, .slice (some ⟨b233, 0, none⟩) 2 2, .slice (some ⟨b234, 0, none⟩) 2 2, .slice (some ⟨b235, 0, none⟩) 2 2] 22 (0, 0))], [(b235, Obj.cells #[.int .i64 1, .int .i64 1] 3 (0, 0))], [(b234, Obj.cells #[.int .i64 0, .int .i64 1] 3 (0, 0))], [(b233, Obj.cells #[.int .i64 1, .int .i64 0] 3 (0, 0))], [(b232, Obj.cells #[.int .i64 0, .int .i64 0] 3 (0, 0))]]) rfl (fun S21 w21 hz21 => ?_)
 replace hb := hb.frz hz21
 replace h17 := h17.old hz21
 replace h18 := h18.old hz21
 replace h19 := h19.old hz21
 have h232 : Row S21 w21 [] (some ⟨b232, 0, none⟩) (ints [0, 0]) := (row_own (η := [[(b236, Obj.cells #[.slice (some ⟨b232, 0, none⟩) 2 2, .slice (some ⟨b233, 0, none⟩) 2 2, .slice (some ⟨b234, 0, none⟩) 2 2, .slice (some ⟨b235, 0, none⟩) 2 2] 22 (0, 0))], [(b235, Obj.cells #[.int .i64 1, .int .i64 1] 3 (0, 0))], [(b234, Obj.cells #[.int .i64 0, .int .i64 1] 3 (0, 0))], [(b233, Obj.cells #[.int .i64 1, .int .i64 0] 3 (0, 0))], [(b232, Obj.cells #[.int .i64 0, .int .i64 0] 3 (0, 0))]]) (cs := [.int .i64 0, .int .i64 0]) (e := 3) (by simp)).frz hz21
 have h233 : Row S21 w21 [] (some ⟨b233, 0, none⟩) (ints [1, 0]) := (row_own (η := [[(b236, Obj.cells #[.slice (some ⟨b232, 0, none⟩) 2 2, .slice (some ⟨b233, 0, none⟩) 2 2, .slice (some ⟨b234, 0, none⟩) 2 2, .slice (some ⟨b235, 0, none⟩) 2 2] 22 (0, 0))], [(b235, Obj.cells #[.int .i64 1, .int .i64 1] 3 (0, 0))], [(b234, Obj.cells #[.int .i64 0, .int .i64 1] 3 (0, 0))], [(b233, Obj.cells #[.int .i64 1, .int .i64 0] 3 (0, 0))], [(b232, Obj.cells #[.int .i64 0, .int .i64 0] 3 (0, 0))]]) (cs := [.int .i64 1, .int .i64 0]) (e := 3) (by simp)).frz hz21
 have h234 : Row S21 w21 [] (some ⟨b234, 0, none⟩) (ints [0, 1]) := (row_own (η := [[(b236, Obj.cells #[.slice (some ⟨b232, 0, none⟩) 2 2, .slice (some ⟨b233, 0, none⟩) 2 2, .slice (some ⟨b234, 0, none⟩) 2 2, .slice (some ⟨b235, 0, none⟩) 2 2] 22 (0, 0))], [(b235, Obj.cells #[.int .i64 1, .int .i64 1] 3 (0, 0))], [(b234, Obj.cells #[.int .i64 0, .int .i64 1] 3 (0, 0))], [(b233, Obj.cells #[.int .i64 1, .int .i64 0] 3 (0, 0))], [(b232, Obj.cells #[.int .i64 0, .int .i64 0] 3 (0, 0))]]) (cs := [.int .i64 0, .int .i64 1]) (e := 3) (by simp)).frz hz21
 have h235 : Row S21 w21 [] (some ⟨b235, 0, none⟩) (ints [1, 1]) := (row_own (η := [[(b236, Obj.cells #[.slice (some ⟨b232, 0, none⟩) 2 2, .slice (some ⟨b233, 0, none⟩) 2 2, .slice (some ⟨b234, 0, none⟩) 2 2, .slice (some ⟨b235, 0, none⟩) 2 2] 22 (0, 0))], [(b235, Obj.cells #[.int .i64 1, .int .i64 1] 3 (0, 0))], [(b234, Obj.cells #[.int .i64 0, .int .i64 1] 3 (0, 0))], [(b233, Obj.cells #[.int .i64 1, .int .i64 0] 3 (0, 0))], [(b232, Obj.cells #[.int .i64 0, .int .i64 0] 3 (0, 0))]]) (cs := [.int .i64 1, .int .i64 1]) (e := 3) (by simp)).frz hz21
 have h236 : LL S21 w21 [] (some ⟨b236, 0, none⟩) [(some ⟨b232, 0, none⟩, [0, 0], 2), (some ⟨b233, 0, none⟩, [1, 0], 2), (some ⟨b234, 0, none⟩, [0, 1], 2), (some ⟨b235, 0, none⟩, [1, 1], 2)] := ⟨(row_own (η := [[(b236, Obj.cells #[.slice (some ⟨b232, 0, none⟩) 2 2, .slice (some ⟨b233, 0, none⟩) 2 2, .slice (some ⟨b234, 0, none⟩) 2 2, .slice (some ⟨b235, 0, none⟩) 2 2] 22 (0, 0))], [(b235, Obj.cells #[.int .i64 1, .int .i64 1] 3 (0, 0))], [(b234, Obj.cells #[.int .i64 0, .int .i64 1] 3 (0, 0))], [(b233, Obj.cells #[.int .i64 1, .int .i64 0] 3 (0, 0))], [(b232, Obj.cells #[.int .i64 0, .int .i64 0] 3 (0, 0))]]) (cs := [.slice (some ⟨b232, 0, none⟩) 2 2, .slice (some ⟨b233, 0, none⟩) 2 2, .slice (some ⟨b234, 0, none⟩) 2 2, .slice (some ⟨b235, 0, none⟩) 2 2]) (e := 22) (by simp)).frz hz21, fun p hp => by
  simp only [List.mem_cons, List.not_mem_nil, or_false] at hp
  rcases hp with rfl | rfl | rfl | rfl
  ·exact h232
  ·exact h233
  ·exact h234
  ·exact h235⟩
 refine TL.call hF (Widest_prog h236 (by simp) (by simp) (fun _ => show (rchM (sortT [[0, 0], [1, 0], [0, 1], [1, 1]])).ok = true by decide +kernel)) rfl rfl ?_
 rintro _ _ h
 obtain ⟨a28, c28, p28, segs, rfl, t28, h28, rfl⟩ := h.lit (show widestS [[0, 0], [1, 0], [0, 1], [1, 1]] = ([[0, 1], [1, 0]], 0) by decide +kernel)
 refine TL.freeze (segs) rfl (fun S22 w22 hz22 => ?_)
 replace hb := hb.frz hz22
 replace h17 := h17.old hz22
 replace h18 := h18.old hz22
 replace h19 := h19.old hz22
 replace h232 := h232.old hz22
 replace h233 := h233.old hz22
 replace h234 := h234.old hz22
 replace h235 := h235.old hz22
 replace h236 := h236.old hz22
 replace h28 := h28.frz hz22
 refine TL.move hF rfl rfl ?_
 refine TL.extract hF rfl rfl rfl ?_
 refine TL.extract hF rfl rfl rfl ?_
 refine TL.assign hF rfl rfl ?_
 refine TL.assign hF rfl rfl ?_
 refine TL.nil ?_
 refine TQ.then_n ?_
 refine T.seq ?_
 refine T.region ?_
 refine TL.buildSlice hF rfl (cs := #[.int .i64 0, .int .i64 0]) (e := 3) (fun w => by kernel_rfl) rfl (fun b241 => ?_)
 refine TL.buildSlice hF rfl (cs := #[.int .i64 1, .int .i64 0]) (e := 3) (fun w => by kernel_rfl) rfl (fun b242 => ?_)
 refine TL.buildSlice hF rfl (cs := #[.int .i64 0, .int .i64 1]) (e := 3) (fun w => by kernel_rfl) rfl (fun b243 => ?_)
 refine TL.buildSlice hF rfl (cs := #[.int .i64 1, .int .i64 1]) (e := 3) (fun w => by kernel_rfl) rfl (fun b244 => ?_)
 refine TL.buildSlice hF rfl (cs := #[.slice (some ⟨b241, 0, none⟩) 2 2, .slice (some ⟨b242, 0, none⟩) 2 2, .slice (some ⟨b243, 0, none⟩) 2 2, .slice (some ⟨b244, 0, none⟩) 2 2]) (e := 22) (fun w => by kernel_rfl) rfl (fun b245 => ?_)
 refine TL.freeze ([[(b245, Obj.cells #[.slice (some ⟨b241, 0, none⟩) 2 2, .slice (some ⟨b242, 0, none⟩) 2 2, .slice (some ⟨b243, 0, none⟩) 2 2, .slice (some ⟨b244, 0, none⟩) 2 2] 22 (0, 0))], [(b244, Obj.cells #[.int .i64 1, .int .i64 1] 3 (0, 0))], [(b243, Obj.cells #[.int .i64 0, .int .i64 1] 3 (0, 0))], [(b242, Obj.cells #[.int .i64 1, .int .i64 0] 3 (0, 0))], [(b241, Obj.cells #[.int .i64 0, .int .i64 0] 3 (0, 0))]]) rfl (fun S23 w23 hz23 => ?_)
 replace hb := hb.frz hz23
 replace h17 := h17.old hz23
 replace h18 := h18.old hz23
 replace h19 := h19.old hz23
 replace h28 := h28.old hz23
 have h241 : Row S23 w23 [] (some ⟨b241, 0, none⟩) (ints [0, 0]) := (row_own (η := [[(b245, Obj.cells #[.slice (some ⟨b241, 0, none⟩) 2 2, .slice (some ⟨b242, 0, none⟩) 2 2, .slice (some ⟨b243, 0, none⟩) 2 2, .slice (some ⟨b244, 0, none⟩) 2 2] 22 (0, 0))], [(b244, Obj.cells #[.int .i64 1, .int .i64 1] 3 (0, 0))], [(b243, Obj.cells #[.int .i64 0, .int .i64 1] 3 (0, 0))], [(b242, Obj.cells #[.int .i64 1, .int .i64 0] 3 (0, 0))], [(b241, Obj.cells #[.int .i64 0, .int .i64 0] 3 (0, 0))]]) (cs := [.int .i64 0, .int .i64 0]) (e := 3) (by simp)).frz hz23
 have h242 : Row S23 w23 [] (some ⟨b242, 0, none⟩) (ints [1, 0]) := (row_own (η := [[(b245, Obj.cells #[.slice (some ⟨b241, 0, none⟩) 2 2, .slice (some ⟨b242, 0, none⟩) 2 2, .slice (some ⟨b243, 0, none⟩) 2 2, .slice (some ⟨b244, 0, none⟩) 2 2] 22 (0, 0))], [(b244, Obj.cells #[.int .i64 1, .int .i64 1] 3 (0, 0))], [(b243, Obj.cells #[.int .i64 0, .int .i64 1] 3 (0, 0))], [(b242, Obj.cells #[.int .i64 1, .int .i64 0] 3 (0, 0))], [(b241, Obj.cells #[.int .i64 0, .int .i64 0] 3 (0, 0))]]) (cs := [.int .i64 1, .int .i64 0]) (e := 3) (by simp)).frz hz23
 have h243 : Row S23 w23 [] (some ⟨b243, 0, none⟩) (ints [0, 1]) := (row_own (η := [[(b245, Obj.cells #[.slice (some ⟨b241, 0, none⟩) 2 2, .slice (some ⟨b242, 0, none⟩) 2 2, .slice (some ⟨b243, 0, none⟩) 2 2, .slice (some ⟨b244, 0, none⟩) 2 2] 22 (0, 0))], [(b244, Obj.cells #[.int .i64 1, .int .i64 1] 3 (0, 0))], [(b243, Obj.cells #[.int .i64 0, .int .i64 1] 3 (0, 0))], [(b242, Obj.cells #[.int .i64 1, .int .i64 0] 3 (0, 0))], [(b241, Obj.cells #[.int .i64 0, .int .i64 0] 3 (0, 0))]]) (cs := [.int .i64 0, .int .i64 1]) (e := 3) (by simp)).frz hz23
 have h244 : Row S23 w23 [] (some ⟨b244, 0, none⟩) (ints [1, 1]) := (row_own (η := [[(b245, Obj.cells #[.slice (some ⟨b241, 0, none⟩) 2 2, .slice (some ⟨b242, 0, none⟩) 2 2, .slice (some ⟨b243, 0, none⟩) 2 2, .slice (some ⟨b244, 0, none⟩) 2 2] 22 (0, 0))], [(b244, Obj.cells #[.int .i64 1, .int .i64 1] 3 (0, 0))], [(b243, Obj.cells #[.int .i64 0, .int .i64 1] 3 (0, 0))], [(b242, Obj.cells #[.int .i64 1, .int .i64 0] 3 (0, 0))], [(b241, Obj.cells #[.int .i64 0, .int .i64 0] 3 (0, 0))]]) (cs := [.int .i64 1, .int .i64 1]) (e := 3) (by simp)).frz hz23
 have h245 : LL S23 w23 [] (some ⟨b245, 0, none⟩) [(some ⟨b241, 0, none⟩, [0, 0], 2), (some ⟨b242, 0, none⟩, [1, 0], 2), (some ⟨b243, 0, none⟩, [0, 1], 2), (some ⟨b244, 0, none⟩, [1, 1], 2)] := ⟨(row_own (η := [[(b245, Obj.cells #[.slice (some ⟨b241, 0, none⟩) 2 2, .slice (some ⟨b242, 0, none⟩) 2 2, .slice (some ⟨b243, 0, none⟩) 2 2, .slice (some ⟨b244, 0, none⟩) 2 2] 22 (0, 0))], [(b244, Obj.cells #[.int .i64 1, .int .i64 1] 3 (0, 0))], [(b243, Obj.cells #[.int .i64 0, .int .i64 1] 3 (0, 0))], [(b242, Obj.cells #[.int .i64 1, .int .i64 0] 3 (0, 0))], [(b241, Obj.cells #[.int .i64 0, .int .i64 0] 3 (0, 0))]]) (cs := [.slice (some ⟨b241, 0, none⟩) 2 2, .slice (some ⟨b242, 0, none⟩) 2 2, .slice (some ⟨b243, 0, none⟩) 2 2, .slice (some ⟨b244, 0, none⟩) 2 2]) (e := 22) (by simp)).frz hz23, fun p hp => by
  simp only [List.mem_cons, List.not_mem_nil, or_false] at hp
  rcases hp with rfl | rfl | rfl | rfl
  ·exact h241
  ·exact h242
  ·exact h243
  ·exact h244⟩
 refine TL.call hF (Chains_prog h245 (by simp) (by simp)) rfl rfl ?_
 rintro _ _ h
 obtain ⟨a30, c30, g30, segs, rfl, t30, h30, rfl⟩ := h.lit (show chainsS [[0, 0], [1, 0], [0, 1], [1, 1]] = ([[[0, 0], [0, 1], [1, 1]], [[1, 0]]], 0) by decide +kernel)
 refine TL.hsub _ (List.sublist_append_right _ _) ?_
 refine TL.move hF rfl rfl ?_
 refine TL.extract hF rfl rfl rfl ?_
 refine TL.extract hF rfl rfl rfl ?_
 refine TL.assign hF rfl rfl ?_
 refine TL.assign hF rfl rfl ?_
 refine TL.nil ?_
 refine TQ.then_n ?_
 refine T.seq ?_
 refine T.region ?_
 refine TL.buildSlice hF rfl (cs := #[.int .i64 2, .int .i64 2]) (e := 3) (fun w => by kernel_rfl) rfl (fun b250 => ?_)
 refine TL.callV hF (at_fn) rfl rfl ?_
 refine TL.buildSlice hF rfl (cs := #[.int .i64 1, .int .i64 2, .int .i64 3, .int .i64 4]) (e := 3) (fun w => by kernel_rfl) rfl (fun b252 => ?_)
 refine TL.callV hF (at_fn) rfl rfl ?_
 refine TL.freeze ([[(b252, Obj.cells #[.int .i64 1, .int .i64 2, .int .i64 3, .int .i64 4] 3 (0, 0))], [(b250, Obj.cells #[.int .i64 2, .int .i64 2] 3 (0, 0))]]) rfl (fun S24 w24 hz24 => ?_)
 replace hb := hb.frz hz24
 replace h17 := h17.old hz24
 replace h18 := h18.old hz24
 replace h19 := h19.old hz24
 replace h28 := h28.old hz24
 have h250 : Row S24 w24 [] (some ⟨b250, 0, none⟩) (ints [2, 2]) := (row_own (η := [[(b252, Obj.cells #[.int .i64 1, .int .i64 2, .int .i64 3, .int .i64 4] 3 (0, 0))], [(b250, Obj.cells #[.int .i64 2, .int .i64 2] 3 (0, 0))]]) (cs := [.int .i64 2, .int .i64 2]) (e := 3) (by simp)).frz hz24
 have h252 : Row S24 w24 [] (some ⟨b252, 0, none⟩) (ints [1, 2, 3, 4]) := (row_own (η := [[(b252, Obj.cells #[.int .i64 1, .int .i64 2, .int .i64 3, .int .i64 4] 3 (0, 0))], [(b250, Obj.cells #[.int .i64 2, .int .i64 2] 3 (0, 0))]]) (cs := [.int .i64 1, .int .i64 2, .int .i64 3, .int .i64 4]) (e := 3) (by simp)).frz hz24
 refine TL.call hF (Sums_prog h250.ro h252.ro (by simp) (by simp) (by intro x hx; simp only [List.mem_cons, List.not_mem_nil, or_false] at hx; omega)) rfl rfl ?_
 rintro _ _ h
 obtain ⟨a32, c32, segs, rfl, h32, rfl⟩ := h.lit (show sumsP [2, 2] [1, 2, 3, 4] = ([1, 3, 4, 10], 0) by decide +kernel)
 refine TL.freeze (segs) rfl (fun S25 w25 hz25 => ?_)
 replace hb := hb.frz hz25
 replace h17 := h17.old hz25
 replace h18 := h18.old hz25
 replace h19 := h19.old hz25
 replace h28 := h28.old hz25
 replace h250 := h250.old hz25
 replace h252 := h252.old hz25
 replace h32 := h32.frz hz25
 refine TL.move hF rfl rfl ?_
 refine TL.extract hF rfl rfl rfl ?_
 refine TL.extract hF rfl rfl rfl ?_
 refine TL.assign hF rfl rfl ?_
 refine TL.assign hF rfl rfl ?_
 refine TL.nil ?_
 refine TQ.then_n ?_
 refine T.seq ?_
 refine T.region ?_
 refine TL.buildSlice hF rfl (cs := #[.int .i64 2, .int .i64 2]) (e := 3) (fun w => by kernel_rfl) rfl (fun b258 => ?_)
 refine TL.callV hF (at_fn) rfl rfl ?_
 refine TL.buildSlice hF rfl (cs := #[.int .i64 1, .int .i64 3, .int .i64 4, .int .i64 10]) (e := 3) (fun w => by kernel_rfl) rfl (fun b260 => ?_)
 refine TL.callV hF (at_fn) rfl rfl ?_
 refine TL.freeze ([[(b260, Obj.cells #[.int .i64 1, .int .i64 3, .int .i64 4, .int .i64 10] 3 (0, 0))], [(b258, Obj.cells #[.int .i64 2, .int .i64 2] 3 (0, 0))]]) rfl (fun S26 w26 hz26 => ?_)
 replace hb := hb.frz hz26
 replace h17 := h17.old hz26
 replace h18 := h18.old hz26
 replace h19 := h19.old hz26
 replace h28 := h28.old hz26
 replace h32 := h32.old hz26
 have h258 : Row S26 w26 [] (some ⟨b258, 0, none⟩) (ints [2, 2]) := (row_own (η := [[(b260, Obj.cells #[.int .i64 1, .int .i64 3, .int .i64 4, .int .i64 10] 3 (0, 0))], [(b258, Obj.cells #[.int .i64 2, .int .i64 2] 3 (0, 0))]]) (cs := [.int .i64 2, .int .i64 2]) (e := 3) (by simp)).frz hz26
 have h260 : Row S26 w26 [] (some ⟨b260, 0, none⟩) (ints [1, 3, 4, 10]) := (row_own (η := [[(b260, Obj.cells #[.int .i64 1, .int .i64 3, .int .i64 4, .int .i64 10] 3 (0, 0))], [(b258, Obj.cells #[.int .i64 2, .int .i64 2] 3 (0, 0))]]) (cs := [.int .i64 1, .int .i64 3, .int .i64 4, .int .i64 10]) (e := 3) (by simp)).frz hz26
 refine TL.call hF (Changes_prog h258.ro h260.ro (by simp) (by simp) (by intro x hx; simp only [List.mem_cons, List.not_mem_nil, or_false] at hx; omega)) rfl rfl ?_
 rintro _ _ h
 obtain ⟨a34, c34, segs, rfl, h34, rfl⟩ := h.lit (show difsP [2, 2] [1, 3, 4, 10] = ([1, 2, 3, 4], 0) by decide +kernel)
 refine TL.freeze (segs) rfl (fun S27 w27 hz27 => ?_)
 replace hb := hb.frz hz27
 replace h17 := h17.old hz27
 replace h18 := h18.old hz27
 replace h19 := h19.old hz27
 replace h28 := h28.old hz27
 replace h32 := h32.old hz27
 replace h258 := h258.old hz27
 replace h260 := h260.old hz27
 replace h34 := h34.frz hz27
 refine TL.move hF rfl rfl ?_
 refine TL.extract hF rfl rfl rfl ?_
 refine TL.extract hF rfl rfl rfl ?_
 refine TL.assign hF rfl rfl ?_
 refine TL.assign hF rfl rfl ?_
 refine TL.nil ?_
 refine TQ.then_n ?_
 refine T.seq ?_
 refine T.region ?_
 refine TL.buildSlice hF rfl (cs := #[.int .i64 2, .int .i64 1]) (e := 3) (fun w => by kernel_rfl) rfl (fun b266 => ?_)
 refine TL.buildSlice hF rfl (cs := #[.int .i64 1, .int .i64 2]) (e := 3) (fun w => by kernel_rfl) rfl (fun b267 => ?_)
 refine TL.buildSlice hF rfl (cs := #[.int .i64 2, .int .i64 1]) (e := 3) (fun w => by kernel_rfl) rfl (fun b268 => ?_)
 refine TL.buildSlice hF rfl (cs := #[.slice (some ⟨b266, 0, none⟩) 2 2, .slice (some ⟨b267, 0, none⟩) 2 2, .slice (some ⟨b268, 0, none⟩) 2 2]) (e := 22) (fun w => by kernel_rfl) rfl (fun b269 => ?_)
 refine TL.freeze ([[(b269, Obj.cells #[.slice (some ⟨b266, 0, none⟩) 2 2, .slice (some ⟨b267, 0, none⟩) 2 2, .slice (some ⟨b268, 0, none⟩) 2 2] 22 (0, 0))], [(b268, Obj.cells #[.int .i64 2, .int .i64 1] 3 (0, 0))], [(b267, Obj.cells #[.int .i64 1, .int .i64 2] 3 (0, 0))], [(b266, Obj.cells #[.int .i64 2, .int .i64 1] 3 (0, 0))]]) rfl (fun S28 w28 hz28 => ?_)
 replace hb := hb.frz hz28
 replace h17 := h17.old hz28
 replace h18 := h18.old hz28
 replace h19 := h19.old hz28
 replace h28 := h28.old hz28
 replace h32 := h32.old hz28
 replace h34 := h34.old hz28
 have h266 : Row S28 w28 [] (some ⟨b266, 0, none⟩) (ints [2, 1]) := (row_own (η := [[(b269, Obj.cells #[.slice (some ⟨b266, 0, none⟩) 2 2, .slice (some ⟨b267, 0, none⟩) 2 2, .slice (some ⟨b268, 0, none⟩) 2 2] 22 (0, 0))], [(b268, Obj.cells #[.int .i64 2, .int .i64 1] 3 (0, 0))], [(b267, Obj.cells #[.int .i64 1, .int .i64 2] 3 (0, 0))], [(b266, Obj.cells #[.int .i64 2, .int .i64 1] 3 (0, 0))]]) (cs := [.int .i64 2, .int .i64 1]) (e := 3) (by simp)).frz hz28
 have h267 : Row S28 w28 [] (some ⟨b267, 0, none⟩) (ints [1, 2]) := (row_own (η := [[(b269, Obj.cells #[.slice (some ⟨b266, 0, none⟩) 2 2, .slice (some ⟨b267, 0, none⟩) 2 2, .slice (some ⟨b268, 0, none⟩) 2 2] 22 (0, 0))], [(b268, Obj.cells #[.int .i64 2, .int .i64 1] 3 (0, 0))], [(b267, Obj.cells #[.int .i64 1, .int .i64 2] 3 (0, 0))], [(b266, Obj.cells #[.int .i64 2, .int .i64 1] 3 (0, 0))]]) (cs := [.int .i64 1, .int .i64 2]) (e := 3) (by simp)).frz hz28
 have h268 : Row S28 w28 [] (some ⟨b268, 0, none⟩) (ints [2, 1]) := (row_own (η := [[(b269, Obj.cells #[.slice (some ⟨b266, 0, none⟩) 2 2, .slice (some ⟨b267, 0, none⟩) 2 2, .slice (some ⟨b268, 0, none⟩) 2 2] 22 (0, 0))], [(b268, Obj.cells #[.int .i64 2, .int .i64 1] 3 (0, 0))], [(b267, Obj.cells #[.int .i64 1, .int .i64 2] 3 (0, 0))], [(b266, Obj.cells #[.int .i64 2, .int .i64 1] 3 (0, 0))]]) (cs := [.int .i64 2, .int .i64 1]) (e := 3) (by simp)).frz hz28
 have h269 : LL S28 w28 [] (some ⟨b269, 0, none⟩) [(some ⟨b266, 0, none⟩, [2, 1], 2), (some ⟨b267, 0, none⟩, [1, 2], 2), (some ⟨b268, 0, none⟩, [2, 1], 2)] := ⟨(row_own (η := [[(b269, Obj.cells #[.slice (some ⟨b266, 0, none⟩) 2 2, .slice (some ⟨b267, 0, none⟩) 2 2, .slice (some ⟨b268, 0, none⟩) 2 2] 22 (0, 0))], [(b268, Obj.cells #[.int .i64 2, .int .i64 1] 3 (0, 0))], [(b267, Obj.cells #[.int .i64 1, .int .i64 2] 3 (0, 0))], [(b266, Obj.cells #[.int .i64 2, .int .i64 1] 3 (0, 0))]]) (cs := [.slice (some ⟨b266, 0, none⟩) 2 2, .slice (some ⟨b267, 0, none⟩) 2 2, .slice (some ⟨b268, 0, none⟩) 2 2]) (e := 22) (by simp)).frz hz28, fun p hp => by
  simp only [List.mem_cons, List.not_mem_nil, or_false] at hp
  rcases hp with rfl | rfl | rfl
  ·exact h266
  ·exact h267
  ·exact h268⟩
 refine TL.call hF (Sort_prog h269 (by simp) (by simp)) rfl rfl ?_
 rintro _ _ h
 obtain ⟨a36, c36, p36, segs, rfl, t36, h36, rfl⟩ := h.lit (show sortS [[2, 1], [1, 2], [2, 1]] = ([[1, 2], [2, 1]], 0) by decide +kernel)
 refine TL.freeze (segs) rfl (fun S29 w29 hz29 => ?_)
 replace hb := hb.frz hz29
 replace h17 := h17.old hz29
 replace h18 := h18.old hz29
 replace h19 := h19.old hz29
 replace h28 := h28.old hz29
 replace h32 := h32.old hz29
 replace h34 := h34.old hz29
 replace h266 := h266.old hz29
 replace h267 := h267.old hz29
 replace h268 := h268.old hz29
 replace h269 := h269.old hz29
 replace h36 := h36.frz hz29
 refine TL.move hF rfl rfl ?_
 refine TL.extract hF rfl rfl rfl ?_
 refine TL.extract hF rfl rfl rfl ?_
 refine TL.assign hF rfl rfl ?_
 refine TL.assign hF rfl rfl ?_
 refine TL.nil ?_
 refine TQ.then_n ?_
 refine T.seq ?_
 refine T.region ?_
 refine TL.move hF rfl rfl ?_
 refine TL.bin hF rfl rfl rfl rfl ?_
 refine TL.move hF rfl rfl ?_
 refine TL.on rfl rfl rfl rfl ?_
 refine TL.move hF rfl rfl ?_
 refine TL.on rfl rfl rfl rfl ?_
 refine TL.bin hF rfl rfl rfl rfl ?_
 refine TL.pickT hF rfl rfl rfl rfl ?_
 refine TL.move hF rfl rfl ?_
 refine TL.on rfl rfl rfl rfl ?_
 refine TL.move hF rfl rfl ?_
 refine TL.on rfl rfl rfl rfl ?_
 refine TL.bin hF rfl rfl rfl rfl ?_
 refine TL.pickT hF rfl rfl rfl rfl ?_
 refine TL.move hF rfl rfl ?_
 refine TL.on rfl rfl rfl rfl ?_
 refine TL.move hF rfl rfl ?_
 refine TL.on rfl rfl rfl rfl ?_
 refine TL.bin hF rfl rfl rfl rfl ?_
 refine TL.pickT hF rfl rfl rfl rfl ?_
 refine TL.move hF rfl rfl ?_
 refine TL.on rfl rfl rfl rfl ?_
 refine TL.move hF rfl rfl ?_
 refine TL.on rfl rfl rfl rfl ?_
 refine TL.bin hF rfl rfl rfl rfl ?_
 refine TL.pickT hF rfl rfl rfl rfl ?_
 refine TL.move hF rfl rfl ?_
 refine TL.on rfl rfl rfl rfl ?_
 refine TL.move hF rfl rfl ?_
 refine TL.on rfl rfl rfl rfl ?_
 refine TL.bin hF rfl rfl rfl rfl ?_
 refine TL.pickT hF rfl rfl rfl rfl ?_
 refine TL.move hF rfl rfl ?_
 refine TL.on rfl rfl rfl rfl ?_
 refine TL.move hF rfl rfl ?_
 refine TL.pickT hF rfl rfl rfl rfl ?_
 refine TL.move hF rfl rfl ?_
 refine TL.on rfl rfl rfl rfl ?_
 refine TL.move hF rfl rfl ?_
 refine TL.on rfl rfl rfl rfl ?_
 refine TL.buildSlice hF rfl (cs := #[.int .i64 0, .int .i64 1]) (e := 3) (fun w => by kernel_rfl) rfl (fun b300 => ?_)
 refine TL.on rfl rfl rfl rfl ?_
 refine TL.buildSlice hF rfl (cs := #[.int .i64 1, .int .i64 0]) (e := 3) (fun w => by kernel_rfl) rfl (fun b301 => ?_)
 refine TL.on rfl rfl rfl rfl ?_
 refine TL.buildSlice hF rfl (cs := #[.slice (some ⟨b300, 0, none⟩) 2 2, .slice (some ⟨b301, 0, none⟩) 2 2]) (e := 22) (fun w => by kernel_rfl) rfl (fun b302 => ?_)
 refine TL.on rfl rfl rfl rfl ?_
 refine TL.callV hF (EqL_lit (L := [[0, 1], [1, 0]]) h28.ro (show LL _ _ _ (some ⟨b302, 0, none⟩) [(some ⟨b300, 0, none⟩, [0, 1], 2), (some ⟨b301, 0, none⟩, [1, 0], 2)] from ⟨row_own (cs := [.slice (some ⟨b300, 0, none⟩) 2 2, .slice (some ⟨b301, 0, none⟩) 2 2]) (e := 22) (b := b302) (by simp), fun p hp => by
  simp only [List.mem_cons, List.not_mem_nil, or_false] at hp
  rcases hp with rfl | rfl
  ·exact (row_own (cs := [.int .i64 0, .int .i64 1]) (e := 3) (b := b300) (by simp))
  ·exact (row_own (cs := [.int .i64 1, .int .i64 0]) (e := 3) (b := b301) (by simp))⟩) t28 rfl (by decide) (by decide)) rfl rfl ?_
 refine TL.pickT hF rfl rfl rfl rfl ?_
 refine TL.move hF rfl rfl ?_
 refine TL.on rfl rfl rfl rfl ?_
 refine TL.move hF rfl rfl ?_
 refine TL.on rfl rfl rfl rfl ?_
 refine TL.len hF rfl rfl ?_
 refine TL.on rfl rfl rfl rfl ?_
 refine TL.bin hF rfl rfl rfl rfl ?_
 refine TL.pickT hF rfl rfl rfl rfl ?_
 refine TL.move hF rfl rfl ?_
 refine TL.on rfl rfl rfl rfl ?_
 refine TL.move hF rfl rfl ?_
 refine TL.on rfl rfl rfl rfl ?_
 refine TL.buildSlice hF rfl (cs := #[.int .i64 1, .int .i64 3, .int .i64 4, .int .i64 10]) (e := 3) (fun w => by kernel_rfl) rfl (fun b312 => ?_)
 refine TL.on rfl rfl rfl rfl ?_
 refine TL.callV hF (at_fn) rfl rfl ?_
 refine TL.on rfl rfl rfl rfl ?_
 refine TL.callV hF (Equal_fn (ys := [1, 3, 4, 10]) h32.ro (row_own (cs := [.int .i64 1, .int .i64 3, .int .i64 4, .int .i64 10]) (e := 3) (b := b312) (by simp)) (by simp)) rfl rfl ?_
 refine TL.pickT hF rfl rfl rfl rfl ?_
 refine TL.move hF rfl rfl ?_
 refine TL.on rfl rfl rfl rfl ?_
 refine TL.move hF rfl rfl ?_
 refine TL.on rfl rfl rfl rfl ?_
 refine TL.buildSlice hF rfl (cs := #[.int .i64 1, .int .i64 2, .int .i64 3, .int .i64 4]) (e := 3) (fun w => by kernel_rfl) rfl (fun b318 => ?_)
 refine TL.on rfl rfl rfl rfl ?_
 refine TL.callV hF (at_fn) rfl rfl ?_
 refine TL.on rfl rfl rfl rfl ?_
 refine TL.callV hF (Equal_fn (ys := [1, 2, 3, 4]) h34.ro (row_own (cs := [.int .i64 1, .int .i64 2, .int .i64 3, .int .i64 4]) (e := 3) (b := b318) (by simp)) (by simp)) rfl rfl ?_
 refine TL.pickT hF rfl rfl rfl rfl ?_
 refine TL.move hF rfl rfl ?_
 refine TL.on rfl rfl rfl rfl ?_
 refine TL.move hF rfl rfl ?_
 refine TL.on rfl rfl rfl rfl ?_
 refine TL.move hF rfl rfl ?_
 refine TL.on rfl rfl rfl rfl ?_
 refine TL.callV hF (EqL_lit (L := [[1, 2], [2, 1]]) h36.ro h19.ro t36 rfl (by decide) (by decide)) rfl rfl ?_
 refine TL.pickT hF rfl rfl rfl rfl ?_
 refine TL.assign hF rfl rfl ?_
 refine TL.nil ?_
 refine TQ.then_n ?_
 refine T.ret ?_
 exact TQ.retsF [0] _ hb rfl rfl rfl (fun _ => rfl)
end Go.Proofs.YteimjjpigohnhaaGreat
/- What the arguments of the laws hold. -/
namespace Go.Proofs.YteimjjpigohnhaaGreat
open Go.Sl Go.ChangeShapes Go.WideShapes Go.Deep Go.RowKit
section
variable {H : Type} {enc : TypeId × Value → H} {W : World}
theorem u3 : Tryz.prog.underlying 3 = some (.int .i64) := by kernel_rfl
theorem u4 : Tryz.prog.underlying 4 = some .bool := by kernel_rfl
theorem u22 : Tryz.prog.underlying 22 = some (.slice 3) := by kernel_rfl
theorem u32 : Tryz.prog.underlying 32 = some (.slice 22) := by kernel_rfl
theorem u52 : Tryz.prog.underlying 52 = some (.array 3 3) := by kernel_rfl
theorem u60 : Tryz.prog.underlying 60 = some (.array 2 3) := by kernel_rfl
theorem k3 : Tryz.prog.cellsOf 3 = 1 := by kernel_rfl
theorem k22 : Tryz.prog.cellsOf 22 = 1 := by kernel_rfl
theorem flat_hc : ∀ l : List HL, l.flatMap (fun p => [hc p]) = l.map hc
  | [] => rfl
  | x :: l => by rw [List.flatMap_cons, flat_hc l]; rfl
theorem time_read {fuel : Nat} {v : Value} {y : DataW H × List MemPlace} (h : DataW.trod enc Tryz.prog W 0 (fun _ => true) true fuel 22 [v] = some y) :
    ∃ (a : Option Addr) (xs : List Int) (cap : Nat), v = .slice a xs.length cap ∧ Row (Old W) W [] a (ints xs) ∧ xs.length < 2 ^ 63 ∧ Wd xs := by
  obtain ⟨a, xs, c, e, hm, hr, hw⟩ := ints_read u22 u3 k3 h
  exact ⟨a, xs, c, e, hr, by unfold maxLen at hm; omega, fun x hx => wf_i64 (hw x hx)⟩
theorem lists_read {fuel : Nat} {v : Value} {y : DataW H × List MemPlace} (h : DataW.trod enc Tryz.prog W 0 (fun _ => true) true fuel 32 [v] = some y) :
    ∃ (a : Option Addr) (ps : List HL) (cap : Nat), v = .slice a ps.length cap ∧ LL (Old W) W [] a ps ∧ ps.length < 2 ^ 63 ∧ ∀ p ∈ ps, p.2.1.length < 2 ^ 63 := by
  obtain ⟨a, len, cap, n2, cs2, e2, _, hm, hlen, hrow, hel⟩ := slice_read u32 (by rw [k22]; omega) h
  rw [k22] at hlen hel
  obtain ⟨l, h5, h6, h7⟩ := list_read (c := 1) (Q := fun p : HL => Row (Old W) W [] p.1 (ints p.2.1) ∧ p.2.1.length < 2 ^ 63) (fun p => [hc p]) hlen (fun i hi => by
    obtain ⟨y, hy⟩ := hel i hi
    have hl1 : ((cs2.drop (i * 1)).take 1).length = 1 := by rw [List.length_take, List.length_drop, hlen]; omega
    obtain ⟨u, hu⟩ : ∃ u, (cs2.drop (i * 1)).take 1 = [u] := by
      match hq : (cs2.drop (i * 1)).take 1, hl1 with
      | [u], _ => exact ⟨u, rfl⟩
    rw [hu] at hy ⊢
    obtain ⟨a', xs, c', e', hr', hl', _⟩ := time_read hy
    exact ⟨(a', xs, c'), by rw [e']; rfl, hr', hl'⟩)
  have e6 := flat_hc l
  refine ⟨a, l, cap, by rw [h5]; exact e2, ⟨by rw [← e6, ← h6]; exact hrow, fun r hr => (h7 r hr).1⟩, ?_, fun r hr => (h7 r hr).2⟩
  unfold maxLen at hm; omega
end
theorem Tryz.own : ownKnob Tryz.prog.godebug = none := by kernel_rfl
theorem Tryz.laidOut : laidOutB Tryz.prog = true := by kernel_rfl
end Go.Proofs.YteimjjpigohnhaaGreat
