/- The program's answers about frontiers are the specification's: for every input. No condition. -/
import Derived.Test.YteimjjpigohnhaaGreatRf
import Derived.Test.YteimjjpigohnhaaGreatRows
/- The program's answers are the specification's. -/
namespace Go.Proofs.YteimjjpigohnhaaGreat
open Go.Sl
variable {S : Nat → Prop} {w0 : World} {η : Heap}
set_option maxRecDepth 8000
set_option maxHeartbeats 2000000 in
theorem OrderTells_fn {a b e : Option Addr} {ps : List HL} {xs ys : List Int} {c d g : Nat} (hx : LL S w0 [] a ps) (hxs : Row S w0 [] b (ints xs)) (hys : Row S w0 [] e (ints ys)) (hl : ps.length < 2 ^ 63) (hlx : ∀ p ∈ ps, p.2.1.length < 2 ^ 63) (hl1 : xs.length < 2 ^ 63) (hl2 : ys.length < 2 ^ 63) :
    Rt Tryz.prog 5 [.slice a ps.length c, .slice b xs.length d, .slice e ys.length g].toArray S w0 [] (fun v _ => v = .bool true) := by
  have hF := open_wide
  refine Rt.of (fn := Tryz.f5) Tryz.func5 rfl rfl ?_
  refine T.seq ?_
  refine T.region ?_
  refine TL.assign hF rfl rfl ?_
  refine TL.nil ?_
  refine TQ.then_n ?_
  refine T.seq ?_
  refine T.seq ?_
  refine T.region ?_
  refine TL.move hF rfl rfl ?_
  refine TL.len hF rfl rfl ?_
  refine TL.bin hF rfl rfl rfl rfl ?_
  refine TL.nil ?_
  refine TQ.then_n ?_
  first | refine T.cond_d rfl (fun ht23 => ?_) (fun ht23 => ?_) | refine T.cond _ rfl (fun ht23 => ?_) (fun ht23 => ?_)
  · refine T.seq ?_
    refine T.region ?_
    refine TL.call hF ordered_fn rfl rfl ?_
    rintro _ _ rfl
    refine TL.assign hF rfl rfl ?_
    refine TL.nil ?_
    refine TQ.then_n ?_
    refine T.ret ?_
    refine TQ.then_r ?_
    refine TQ.rets [6] _ rfl rfl rfl ?_
    rfl
  · refine T.skip ?_
    refine TQ.then_n ?_
    refine T.seq ?_
    refine T.region ?_
    refine TL.move hF rfl rfl ?_
    refine TL.move hF rfl rfl ?_
    have hb := Back.refl S w0
    refine TL.call hF (Less_prog hxs hys hl1 hl2) rfl rfl ?_
    rintro _ _ ⟨rfl, segs, rfl⟩
    refine TL.hsub _ (List.sublist_append_right _ _) ?_
    refine TL.move hF rfl rfl ?_
    refine TL.extract hF rfl rfl rfl ?_
    refine TL.extract hF rfl rfl rfl ?_
    refine TL.assign hF rfl rfl ?_
    refine TL.assign hF rfl rfl ?_
    refine TL.nil ?_
    refine TQ.then_n ?_
    refine T.seq ?_
    refine T.region ?_
    refine TL.move hF rfl rfl ?_
    refine TL.move hF rfl rfl ?_
    refine TL.call hF (Less_ref hxs hys hl1 hl2) rfl rfl ?_
    rintro _ _ ⟨rfl, segs, rfl⟩
    refine TL.hsub _ (List.sublist_append_right _ _) ?_
    refine TL.move hF rfl rfl ?_
    refine TL.extract hF rfl rfl rfl ?_
    refine TL.extract hF rfl rfl rfl ?_
    refine TL.assign hF rfl rfl ?_
    refine TL.assign hF rfl rfl ?_
    refine TL.nil ?_
    refine TQ.then_n ?_
    refine T.seq ?_
    refine T.region ?_
    refine TL.move hF rfl rfl ?_
    refine TL.move hF rfl rfl ?_
    refine TL.call hF (Meet_prog hxs hys hl1 hl2) rfl rfl ?_
    rintro _ _ ⟨a11, c11, segs, rfl, h11, rfl⟩
    refine TL.freeze (segs) rfl (fun S1 w1 hz1 => ?_)
    replace hb := hb.frz hz1
    replace hx := hx.old hz1
    replace hxs := hxs.old hz1
    replace hys := hys.old hz1
    replace h11 := h11.frz hz1
    refine TL.move hF rfl rfl ?_
    refine TL.extract hF rfl rfl rfl ?_
    refine TL.extract hF rfl rfl rfl ?_
    refine TL.assign hF rfl rfl ?_
    refine TL.assign hF rfl rfl ?_
    refine TL.nil ?_
    refine TQ.then_n ?_
    refine T.seq ?_
    refine T.region ?_
    refine TL.move hF rfl rfl ?_
    refine TL.move hF rfl rfl ?_
    refine TL.call hF (Meet_ref hxs hys hl1 hl2) rfl rfl ?_
    rintro _ _ ⟨a13, c13, segs, rfl, h13, rfl⟩
    refine TL.freeze (segs) rfl (fun S2 w2 hz2 => ?_)
    replace hb := hb.frz hz2
    replace hx := hx.old hz2
    replace hxs := hxs.old hz2
    replace hys := hys.old hz2
    replace h11 := h11.old hz2
    replace h13 := h13.frz hz2
    refine TL.move hF rfl rfl ?_
    refine TL.extract hF rfl rfl rfl ?_
    refine TL.extract hF rfl rfl rfl ?_
    refine TL.assign hF rfl rfl ?_
    refine TL.assign hF rfl rfl ?_
    refine TL.nil ?_
    refine TQ.then_n ?_
    refine T.seq ?_
    refine T.seq ?_
    refine T.region ?_
    refine TL.move hF rfl rfl ?_
    refine TL.move hF rfl rfl ?_
    refine TL.neqB hF rfl rfl rfl ?_
    refine TL.move hF rfl rfl ?_
    refine TL.on rfl rfl rfl (by simp) ?_
    refine TL.move hF rfl rfl ?_
    refine TL.on rfl rfl rfl (by simp) ?_
    refine TL.move hF rfl rfl ?_
    refine TL.on rfl rfl rfl (by simp) ?_
    refine TL.bin hF rfl rfl rfl rfl ?_
    refine TL.pickF hF rfl (by simp) rfl rfl ?_
    refine TL.move hF rfl rfl ?_
    refine TL.on rfl rfl rfl (by simp) ?_
    refine TL.move hF rfl rfl ?_
    refine TL.on rfl rfl rfl (by simp) ?_
    refine TL.move hF rfl rfl ?_
    refine TL.on rfl rfl rfl (by simp) ?_
    refine TL.callV hF (Eq_same h11.ro h13.ro (meetS_len xs ys)) rfl rfl ?_
    refine TL.on rfl rfl rfl (by simp) ?_
    refine TL.not hF rfl rfl ?_
    refine TL.pickF hF rfl (by simp) rfl rfl ?_
    refine TL.move hF rfl rfl ?_
    refine TL.on rfl rfl rfl (by simp) ?_
    refine TL.move hF rfl rfl ?_
    refine TL.on rfl rfl rfl (by simp) ?_
    refine TL.move hF rfl rfl ?_
    refine TL.on rfl rfl rfl (by simp) ?_
    refine TL.bin hF rfl rfl rfl rfl ?_
    refine TL.pickF hF rfl (by simp) rfl rfl ?_
    refine TL.nil ?_
    refine TQ.then_n ?_
    refine T.cond_f rfl (by simp) ?_
    refine T.skip ?_
    refine TQ.then_n ?_
    refine T.seq ?_
    refine T.region ?_
    refine TL.move hF rfl rfl ?_
    refine TL.move hF rfl rfl ?_
    refine TL.call hF (Join_prog hxs hys hl1 hl2) rfl rfl ?_
    rintro _ _ ⟨a21, c21, segs, rfl, h21, rfl⟩
    refine TL.freeze (segs) rfl (fun S3 w3 hz3 => ?_)
    replace hb := hb.frz hz3
    replace hx := hx.old hz3
    replace hxs := hxs.old hz3
    replace hys := hys.old hz3
    replace h21 := h21.frz hz3
    refine TL.move hF rfl rfl ?_
    refine TL.extract hF rfl rfl rfl ?_
    refine TL.extract hF rfl rfl rfl ?_
    refine TL.assign hF rfl rfl ?_
    refine TL.assign hF rfl rfl ?_
    refine TL.nil ?_
    refine TQ.then_n ?_
    refine T.seq ?_
    refine T.region ?_
    refine TL.move hF rfl rfl ?_
    refine TL.move hF rfl rfl ?_
    refine TL.call hF (Join_ref hxs hys hl1 hl2) rfl rfl ?_
    rintro _ _ ⟨a23, c23, segs, rfl, h23, rfl⟩
    refine TL.freeze (segs) rfl (fun S4 w4 hz4 => ?_)
    replace hb := hb.frz hz4
    replace hx := hx.old hz4
    replace hxs := hxs.old hz4
    replace hys := hys.old hz4
    replace h21 := h21.old hz4
    replace h23 := h23.frz hz4
    refine TL.move hF rfl rfl ?_
    refine TL.extract hF rfl rfl rfl ?_
    refine TL.extract hF rfl rfl rfl ?_
    refine TL.assign hF rfl rfl ?_
    refine TL.assign hF rfl rfl ?_
    refine TL.nil ?_
    refine TQ.then_n ?_
    refine T.seq ?_
    refine T.region ?_
    refine TL.move hF rfl rfl ?_
    refine TL.call hF (Sort_prog hx (by omega) hlx) rfl rfl ?_
    rintro _ _ ⟨a15, c15, p15, segs, rfl, t15, h15, rfl⟩
    refine TL.freeze (segs) rfl (fun S5 w5 hz5 => ?_)
    replace hb := hb.frz hz5
    replace hx := hx.old hz5
    replace hxs := hxs.old hz5
    replace hys := hys.old hz5
    replace h21 := h21.old hz5
    replace h23 := h23.old hz5
    replace h15 := h15.frz hz5
    refine TL.move hF rfl rfl ?_
    refine TL.extract hF rfl rfl rfl ?_
    refine TL.extract hF rfl rfl rfl ?_
    refine TL.assign hF rfl rfl ?_
    refine TL.assign hF rfl rfl ?_
    refine TL.nil ?_
    refine TQ.then_n ?_
    refine T.seq ?_
    refine T.region ?_
    refine TL.move hF rfl rfl ?_
    refine TL.call hF (Sort_ref hx (by omega) hlx) rfl rfl ?_
    rintro _ _ ⟨a16, c16, p16, segs, rfl, t16, h16, rfl⟩
    refine TL.freeze (segs) rfl (fun S6 w6 hz6 => ?_)
    replace hb := hb.frz hz6
    replace hx := hx.old hz6
    replace hxs := hxs.old hz6
    replace hys := hys.old hz6
    replace h21 := h21.old hz6
    replace h23 := h23.old hz6
    replace h15 := h15.old hz6
    replace h16 := h16.frz hz6
    refine TL.move hF rfl rfl ?_
    refine TL.extract hF rfl rfl rfl ?_
    refine TL.extract hF rfl rfl rfl ?_
    refine TL.assign hF rfl rfl ?_
    refine TL.assign hF rfl rfl ?_
    refine TL.nil ?_
    refine TQ.then_n ?_
    refine T.seq ?_
    refine T.seq ?_
    refine T.region ?_
    refine TL.move hF rfl rfl ?_
    refine TL.move hF rfl rfl ?_
    refine TL.callV hF (Eq_same h21.ro h23.ro (joinS_len xs ys)) rfl rfl ?_
    refine TL.not hF rfl rfl ?_
    refine TL.move hF rfl rfl ?_
    refine TL.on rfl rfl rfl (by simp) ?_
    refine TL.move hF rfl rfl ?_
    refine TL.on rfl rfl rfl (by simp) ?_
    refine TL.move hF rfl rfl ?_
    refine TL.on rfl rfl rfl (by simp) ?_
    refine TL.bin hF rfl rfl rfl rfl ?_
    refine TL.pickF hF rfl (by simp) rfl rfl ?_
    refine TL.move hF rfl rfl ?_
    refine TL.on rfl rfl rfl (by simp) ?_
    refine TL.move hF rfl rfl ?_
    refine TL.on rfl rfl rfl (by simp) ?_
    refine TL.move hF rfl rfl ?_
    refine TL.on rfl rfl rfl (by simp) ?_
    refine TL.callV hF (EqL_same h15.ro h16.ro t15 t16 (sortS_good _)) rfl rfl ?_
    refine TL.on rfl rfl rfl (by simp) ?_
    refine TL.not hF rfl rfl ?_
    refine TL.pickF hF rfl (by simp) rfl rfl ?_
    refine TL.move hF rfl rfl ?_
    refine TL.on rfl rfl rfl (by simp) ?_
    refine TL.move hF rfl rfl ?_
    refine TL.on rfl rfl rfl (by simp) ?_
    refine TL.move hF rfl rfl ?_
    refine TL.on rfl rfl rfl (by simp) ?_
    refine TL.bin hF rfl rfl rfl rfl ?_
    refine TL.pickF hF rfl (by simp) rfl rfl ?_
    refine TL.nil ?_
    refine TQ.then_n ?_
    refine T.cond_f rfl (by simp) ?_
    refine T.skip ?_
    refine TQ.then_n ?_
    refine T.seq ?_
    refine T.region ?_
    refine TL.move hF rfl rfl ?_
    refine TL.call hF (Firsts_prog hx (by omega) hlx) rfl rfl ?_
    rintro _ _ ⟨a31, c31, p31, segs, rfl, t31, h31, rfl⟩
    refine TL.freeze (segs) rfl (fun S7 w7 hz7 => ?_)
    replace hb := hb.frz hz7
    replace hx := hx.old hz7
    replace hxs := hxs.old hz7
    replace hys := hys.old hz7
    replace h31 := h31.frz hz7
    refine TL.move hF rfl rfl ?_
    refine TL.extract hF rfl rfl rfl ?_
    refine TL.extract hF rfl rfl rfl ?_
    refine TL.assign hF rfl rfl ?_
    refine TL.assign hF rfl rfl ?_
    refine TL.nil ?_
    refine TQ.then_n ?_
    refine T.seq ?_
    refine T.region ?_
    refine TL.move hF rfl rfl ?_
    refine TL.call hF (Firsts_ref hx (by omega) hlx) rfl rfl ?_
    rintro _ _ ⟨a32, c32, p32, segs, rfl, t32, h32, rfl⟩
    refine TL.freeze (segs) rfl (fun S8 w8 hz8 => ?_)
    replace hb := hb.frz hz8
    replace hx := hx.old hz8
    replace hxs := hxs.old hz8
    replace hys := hys.old hz8
    replace h31 := h31.old hz8
    replace h32 := h32.frz hz8
    refine TL.move hF rfl rfl ?_
    refine TL.extract hF rfl rfl rfl ?_
    refine TL.extract hF rfl rfl rfl ?_
    refine TL.assign hF rfl rfl ?_
    refine TL.assign hF rfl rfl ?_
    refine TL.nil ?_
    refine TQ.then_n ?_
    refine T.seq ?_
    refine T.region ?_
    refine TL.move hF rfl rfl ?_
    refine TL.call hF (Lasts_prog hx (by omega) hlx) rfl rfl ?_
    rintro _ _ ⟨a33, c33, p33, segs, rfl, t33, h33, rfl⟩
    refine TL.freeze (segs) rfl (fun S9 w9 hz9 => ?_)
    replace hb := hb.frz hz9
    replace hx := hx.old hz9
    replace hxs := hxs.old hz9
    replace hys := hys.old hz9
    replace h31 := h31.old hz9
    replace h32 := h32.old hz9
    replace h33 := h33.frz hz9
    refine TL.move hF rfl rfl ?_
    refine TL.extract hF rfl rfl rfl ?_
    refine TL.extract hF rfl rfl rfl ?_
    refine TL.assign hF rfl rfl ?_
    refine TL.assign hF rfl rfl ?_
    refine TL.nil ?_
    refine TQ.then_n ?_
    refine T.seq ?_
    refine T.region ?_
    refine TL.move hF rfl rfl ?_
    refine TL.call hF (Lasts_ref hx (by omega) hlx) rfl rfl ?_
    rintro _ _ ⟨a34, c34, p34, segs, rfl, t34, h34, rfl⟩
    refine TL.freeze (segs) rfl (fun S10 w10 hz10 => ?_)
    replace hb := hb.frz hz10
    replace hx := hx.old hz10
    replace hxs := hxs.old hz10
    replace hys := hys.old hz10
    replace h31 := h31.old hz10
    replace h32 := h32.old hz10
    replace h33 := h33.old hz10
    replace h34 := h34.frz hz10
    refine TL.move hF rfl rfl ?_
    refine TL.extract hF rfl rfl rfl ?_
    refine TL.extract hF rfl rfl rfl ?_
    refine TL.assign hF rfl rfl ?_
    refine TL.assign hF rfl rfl ?_
    refine TL.nil ?_
    refine TQ.then_n ?_
    refine T.seq ?_
    refine T.region ?_
    refine TL.move hF rfl rfl ?_
    refine TL.move hF rfl rfl ?_
    refine TL.call hF (Beyond_prog hx hxs (by omega) hlx hl1) rfl rfl ?_
    rintro _ _ ⟨rfl, segs, rfl⟩
    refine TL.hsub _ (List.sublist_append_right _ _) ?_
    refine TL.move hF rfl rfl ?_
    refine TL.extract hF rfl rfl rfl ?_
    refine TL.extract hF rfl rfl rfl ?_
    refine TL.assign hF rfl rfl ?_
    refine TL.assign hF rfl rfl ?_
    refine TL.nil ?_
    refine TQ.then_n ?_
    refine T.seq ?_
    refine T.region ?_
    refine TL.move hF rfl rfl ?_
    refine TL.move hF rfl rfl ?_
    refine TL.call hF (Beyond_ref hx hxs (by omega) hlx hl1) rfl rfl ?_
    rintro _ _ ⟨rfl, segs, rfl⟩
    refine TL.hsub _ (List.sublist_append_right _ _) ?_
    refine TL.move hF rfl rfl ?_
    refine TL.extract hF rfl rfl rfl ?_
    refine TL.extract hF rfl rfl rfl ?_
    refine TL.assign hF rfl rfl ?_
    refine TL.assign hF rfl rfl ?_
    refine TL.nil ?_
    refine TQ.then_n ?_
    refine T.seq ?_
    refine T.region ?_
    refine TL.move hF rfl rfl ?_
    refine TL.move hF rfl rfl ?_
    refine TL.callV hF (EqL_same h31.ro h32.ro t31 t32 (firstsS_good _)) rfl rfl ?_
    refine TL.move hF rfl rfl ?_
    refine TL.on rfl rfl rfl (by simp) ?_
    refine TL.move hF rfl rfl ?_
    refine TL.on rfl rfl rfl (by simp) ?_
    refine TL.move hF rfl rfl ?_
    refine TL.on rfl rfl rfl (by simp) ?_
    refine TL.bin hF rfl rfl rfl rfl ?_
    refine TL.pickT hF rfl (by simp) rfl rfl ?_
    refine TL.move hF rfl rfl ?_
    refine TL.on rfl rfl rfl (by simp) ?_
    refine TL.move hF rfl rfl ?_
    refine TL.on rfl rfl rfl (by simp) ?_
    refine TL.move hF rfl rfl ?_
    refine TL.on rfl rfl rfl (by simp) ?_
    refine TL.callV hF (EqL_same h33.ro h34.ro t33 t34 (lastsS_good _)) rfl rfl ?_
    refine TL.pickT hF rfl (by simp) rfl rfl ?_
    refine TL.move hF rfl rfl ?_
    refine TL.on rfl rfl rfl (by simp) ?_
    refine TL.move hF rfl rfl ?_
    refine TL.on rfl rfl rfl (by simp) ?_
    refine TL.move hF rfl rfl ?_
    refine TL.on rfl rfl rfl (by simp) ?_
    refine TL.bin hF rfl rfl rfl rfl ?_
    refine TL.pickT hF rfl (by simp) rfl rfl ?_
    refine TL.move hF rfl rfl ?_
    refine TL.on rfl rfl rfl (by simp) ?_
    refine TL.move hF rfl rfl ?_
    refine TL.on rfl rfl rfl (by simp) ?_
    refine TL.move hF rfl rfl ?_
    refine TL.on rfl rfl rfl (by simp) ?_
    refine TL.eqlB hF rfl rfl rfl ?_
    refine TL.pickT hF rfl (by simp) rfl rfl ?_
    refine TL.move hF rfl rfl ?_
    refine TL.on rfl rfl rfl (by simp) ?_
    refine TL.move hF rfl rfl ?_
    refine TL.on rfl rfl rfl (by simp) ?_
    refine TL.move hF rfl rfl ?_
    refine TL.on rfl rfl rfl (by simp) ?_
    refine TL.bin hF rfl rfl rfl rfl ?_
    refine TL.pickT hF rfl (by simp) rfl rfl ?_
    refine TL.move hF rfl rfl ?_
    refine TL.on rfl rfl rfl (by simp) ?_
    refine TL.call hF ordered_fn rfl rfl ?_
    rintro _ _ rfl
    refine TL.pickT hF rfl (by simp) rfl rfl ?_
    refine TL.assign hF rfl rfl ?_
    refine TL.nil ?_
    refine TQ.then_n ?_
    refine T.ret ?_
    exact TQ.retsF [6] _ hb rfl rfl rfl (fun _ => rfl)
set_option maxHeartbeats 2000000 in
theorem OrderFrontiers_fn {a b e : Option Addr} {ps rs : List HL} {t : List Int} {c d g : Nat} (hx : LL S w0 [] a ps) (hy : LL S w0 [] b rs) (ht : Row S w0 [] e (ints t)) (hl : ps.length < 2 ^ 63) (hl2 : rs.length < 2 ^ 63) (hlx : ∀ p ∈ ps, p.2.1.length < 2 ^ 63) (hly : ∀ p ∈ rs, p.2.1.length < 2 ^ 63) (htl : t.length < 2 ^ 63) :
    Rt Tryz.prog 6 [.slice a ps.length c, .slice b rs.length d, .slice e t.length g].toArray S w0 [] (fun v _ => v = .bool true) := by
  have hF := open_wide
  refine Rt.of (fn := Tryz.f6) Tryz.func6 rfl rfl ?_
  refine T.seq ?_
  refine T.region ?_
  refine TL.assign hF rfl rfl ?_
  refine TL.nil ?_
  refine TQ.then_n ?_
  refine T.seq ?_
  refine T.seq ?_
  refine T.region ?_
  refine TL.move hF rfl rfl ?_
  refine TL.len hF rfl rfl ?_
  refine TL.bin hF rfl rfl rfl rfl ?_
  refine TL.move hF rfl rfl ?_
  refine TL.gd (t := 26) rfl (fun g1_26 => ?_) (fun g1_26 => ?_)
  · refine TL.off hF rfl rfl rfl (decide_eq_true g1_26) rfl ?_
    refine TL.off hF rfl rfl rfl (decide_eq_true g1_26) rfl ?_
    refine TL.off hF rfl rfl rfl (decide_eq_true g1_26) rfl ?_
    refine TL.pickT hF rfl (decide_eq_true g1_26) rfl rfl ?_
    refine TL.nil ?_
    refine TQ.then_n ?_
    refine T.cond_t rfl rfl ?_
    refine T.seq ?_
    refine T.region ?_
    refine TL.call hF ordered_fn rfl rfl ?_
    rintro _ _ rfl
    refine TL.assign hF rfl rfl ?_
    refine TL.nil ?_
    refine TQ.then_n ?_
    refine T.ret ?_
    refine TQ.then_r ?_
    refine TQ.rets [6] _ rfl rfl rfl ?_
    rfl
  · refine TL.on rfl rfl rfl (decide_eq_false g1_26) ?_
    refine TL.move hF rfl rfl ?_
    refine TL.on rfl rfl rfl (decide_eq_false g1_26) ?_
    refine TL.len hF rfl rfl ?_
    refine TL.on rfl rfl rfl (decide_eq_false g1_26) ?_
    refine TL.bin hF rfl rfl rfl rfl ?_
    refine TL.pickF hF rfl (decide_eq_false g1_26) rfl rfl ?_
    refine TL.nil ?_
    refine TQ.then_n ?_
    first | refine T.cond_d rfl (fun ht30 => ?_) (fun ht30 => ?_) | refine T.cond _ rfl (fun ht30 => ?_) (fun ht30 => ?_)
    · refine T.seq ?_
      refine T.region ?_
      refine TL.call hF ordered_fn rfl rfl ?_
      rintro _ _ rfl
      refine TL.assign hF rfl rfl ?_
      refine TL.nil ?_
      refine TQ.then_n ?_
      refine T.ret ?_
      refine TQ.then_r ?_
      refine TQ.rets [6] _ rfl rfl rfl ?_
      rfl
    · refine T.skip ?_
      refine TQ.then_n ?_
      refine T.seq ?_
      refine T.region ?_
      refine TL.move hF rfl rfl ?_
      refine TL.move hF rfl rfl ?_
      have hb := Back.refl S w0
      refine TL.call hF (Ahead_prog hx hy (by omega) (by omega) hlx hly) rfl rfl ?_
      rintro _ _ ⟨rfl, segs, rfl⟩
      refine TL.hsub _ (List.sublist_append_right _ _) ?_
      refine TL.move hF rfl rfl ?_
      refine TL.extract hF rfl rfl rfl ?_
      refine TL.extract hF rfl rfl rfl ?_
      refine TL.assign hF rfl rfl ?_
      refine TL.assign hF rfl rfl ?_
      refine TL.nil ?_
      refine TQ.then_n ?_
      refine T.seq ?_
      refine T.region ?_
      refine TL.move hF rfl rfl ?_
      refine TL.move hF rfl rfl ?_
      refine TL.call hF (Ahead_ref hx hy (by omega) (by omega) hlx hly) rfl rfl ?_
      rintro _ _ ⟨rfl, segs, rfl⟩
      refine TL.hsub _ (List.sublist_append_right _ _) ?_
      refine TL.move hF rfl rfl ?_
      refine TL.extract hF rfl rfl rfl ?_
      refine TL.extract hF rfl rfl rfl ?_
      refine TL.assign hF rfl rfl ?_
      refine TL.assign hF rfl rfl ?_
      refine TL.nil ?_
      refine TQ.then_n ?_
      refine T.seq ?_
      refine T.region ?_
      refine TL.move hF rfl rfl ?_
      refine TL.move hF rfl rfl ?_
      refine TL.call hF (Either_prog hx hy (by omega) (by omega) hlx hly) rfl rfl ?_
      rintro _ _ ⟨a31, c31, p31, segs, rfl, t31, h31, rfl⟩
      refine TL.freeze (segs) rfl (fun S1 w1 hz1 => ?_)
      replace hb := hb.frz hz1
      replace hx := hx.old hz1
      replace hy := hy.old hz1
      replace ht := ht.old hz1
      replace h31 := h31.frz hz1
      refine TL.move hF rfl rfl ?_
      refine TL.extract hF rfl rfl rfl ?_
      refine TL.extract hF rfl rfl rfl ?_
      refine TL.assign hF rfl rfl ?_
      refine TL.assign hF rfl rfl ?_
      refine TL.nil ?_
      refine TQ.then_n ?_
      refine T.seq ?_
      refine T.region ?_
      refine TL.move hF rfl rfl ?_
      refine TL.move hF rfl rfl ?_
      refine TL.call hF (Either_ref hx hy (by omega) (by omega) hlx hly) rfl rfl ?_
      rintro _ _ ⟨a32, c32, p32, segs, rfl, t32, h32, rfl⟩
      refine TL.freeze (segs) rfl (fun S2 w2 hz2 => ?_)
      replace hb := hb.frz hz2
      replace hx := hx.old hz2
      replace hy := hy.old hz2
      replace ht := ht.old hz2
      replace h31 := h31.old hz2
      replace h32 := h32.frz hz2
      refine TL.move hF rfl rfl ?_
      refine TL.extract hF rfl rfl rfl ?_
      refine TL.extract hF rfl rfl rfl ?_
      refine TL.assign hF rfl rfl ?_
      refine TL.assign hF rfl rfl ?_
      refine TL.nil ?_
      refine TQ.then_n ?_
      refine T.seq ?_
      refine T.region ?_
      refine TL.move hF rfl rfl ?_
      refine TL.move hF rfl rfl ?_
      refine TL.call hF (Both_prog hx hy (by omega) (by omega) hlx hly) rfl rfl ?_
      rintro _ _ ⟨a33, c33, p33, segs, rfl, t33, h33, rfl⟩
      refine TL.freeze (segs) rfl (fun S3 w3 hz3 => ?_)
      replace hb := hb.frz hz3
      replace hx := hx.old hz3
      replace hy := hy.old hz3
      replace ht := ht.old hz3
      replace h31 := h31.old hz3
      replace h32 := h32.old hz3
      replace h33 := h33.frz hz3
      refine TL.move hF rfl rfl ?_
      refine TL.extract hF rfl rfl rfl ?_
      refine TL.extract hF rfl rfl rfl ?_
      refine TL.assign hF rfl rfl ?_
      refine TL.assign hF rfl rfl ?_
      refine TL.nil ?_
      refine TQ.then_n ?_
      refine T.seq ?_
      refine T.region ?_
      refine TL.move hF rfl rfl ?_
      refine TL.move hF rfl rfl ?_
      refine TL.call hF (Both_ref hx hy (by omega) (by omega) hlx hly) rfl rfl ?_
      rintro _ _ ⟨a34, c34, p34, segs, rfl, t34, h34, rfl⟩
      refine TL.freeze (segs) rfl (fun S4 w4 hz4 => ?_)
      replace hb := hb.frz hz4
      replace hx := hx.old hz4
      replace hy := hy.old hz4
      replace ht := ht.old hz4
      replace h31 := h31.old hz4
      replace h32 := h32.old hz4
      replace h33 := h33.old hz4
      replace h34 := h34.frz hz4
      refine TL.move hF rfl rfl ?_
      refine TL.extract hF rfl rfl rfl ?_
      refine TL.extract hF rfl rfl rfl ?_
      refine TL.assign hF rfl rfl ?_
      refine TL.assign hF rfl rfl ?_
      refine TL.nil ?_
      refine TQ.then_n ?_
      refine T.seq ?_
      refine T.region ?_
      refine TL.move hF rfl rfl ?_
      refine TL.move hF rfl rfl ?_
      refine TL.call hF (Seen_prog hx ht (by omega) hlx htl) rfl rfl ?_
      rintro _ _ ⟨a35, c35, segs, rfl, h35, rfl⟩
      refine TL.freeze (segs) rfl (fun S5 w5 hz5 => ?_)
      replace hb := hb.frz hz5
      replace hx := hx.old hz5
      replace hy := hy.old hz5
      replace ht := ht.old hz5
      replace h31 := h31.old hz5
      replace h32 := h32.old hz5
      replace h33 := h33.old hz5
      replace h34 := h34.old hz5
      replace h35 := h35.frz hz5
      refine TL.move hF rfl rfl ?_
      refine TL.extract hF rfl rfl rfl ?_
      refine TL.extract hF rfl rfl rfl ?_
      refine TL.assign hF rfl rfl ?_
      refine TL.assign hF rfl rfl ?_
      refine TL.nil ?_
      refine TQ.then_n ?_
      refine T.seq ?_
      refine T.region ?_
      refine TL.move hF rfl rfl ?_
      refine TL.move hF rfl rfl ?_
      refine TL.call hF (Seen_ref hx ht (by omega) hlx htl) rfl rfl ?_
      rintro _ _ ⟨a36, c36, segs, rfl, h36, rfl⟩
      refine TL.freeze (segs) rfl (fun S6 w6 hz6 => ?_)
      replace hb := hb.frz hz6
      replace hx := hx.old hz6
      replace hy := hy.old hz6
      replace ht := ht.old hz6
      replace h31 := h31.old hz6
      replace h32 := h32.old hz6
      replace h33 := h33.old hz6
      replace h34 := h34.old hz6
      replace h35 := h35.old hz6
      replace h36 := h36.frz hz6
      refine TL.move hF rfl rfl ?_
      refine TL.extract hF rfl rfl rfl ?_
      refine TL.extract hF rfl rfl rfl ?_
      refine TL.assign hF rfl rfl ?_
      refine TL.assign hF rfl rfl ?_
      refine TL.nil ?_
      refine TQ.then_n ?_
      refine T.seq ?_
      refine T.region ?_
      refine TL.move hF rfl rfl ?_
      refine TL.move hF rfl rfl ?_
      refine TL.eqlB hF rfl rfl rfl ?_
      refine TL.move hF rfl rfl ?_
      refine TL.on rfl rfl rfl (by simp) ?_
      refine TL.move hF rfl rfl ?_
      refine TL.on rfl rfl rfl (by simp) ?_
      refine TL.move hF rfl rfl ?_
      refine TL.on rfl rfl rfl (by simp) ?_
      refine TL.bin hF rfl rfl rfl rfl ?_
      refine TL.pickT hF rfl (by simp) rfl rfl ?_
      refine TL.move hF rfl rfl ?_
      refine TL.on rfl rfl rfl (by simp) ?_
      refine TL.move hF rfl rfl ?_
      refine TL.on rfl rfl rfl (by simp) ?_
      refine TL.move hF rfl rfl ?_
      refine TL.on rfl rfl rfl (by simp) ?_
      refine TL.callV hF (EqL_same h31.ro h32.ro t31 t32 (eitherS_good _ _)) rfl rfl ?_
      refine TL.pickT hF rfl (by simp) rfl rfl ?_
      refine TL.move hF rfl rfl ?_
      refine TL.on rfl rfl rfl (by simp) ?_
      refine TL.move hF rfl rfl ?_
      refine TL.on rfl rfl rfl (by simp) ?_
      refine TL.move hF rfl rfl ?_
      refine TL.on rfl rfl rfl (by simp) ?_
      refine TL.bin hF rfl rfl rfl rfl ?_
      refine TL.pickT hF rfl (by simp) rfl rfl ?_
      refine TL.move hF rfl rfl ?_
      refine TL.on rfl rfl rfl (by simp) ?_
      refine TL.move hF rfl rfl ?_
      refine TL.on rfl rfl rfl (by simp) ?_
      refine TL.move hF rfl rfl ?_
      refine TL.on rfl rfl rfl (by simp) ?_
      refine TL.callV hF (EqL_same h33.ro h34.ro t33 t34 (bothS_good _ _)) rfl rfl ?_
      refine TL.pickT hF rfl (by simp) rfl rfl ?_
      refine TL.move hF rfl rfl ?_
      refine TL.on rfl rfl rfl (by simp) ?_
      refine TL.move hF rfl rfl ?_
      refine TL.on rfl rfl rfl (by simp) ?_
      refine TL.move hF rfl rfl ?_
      refine TL.on rfl rfl rfl (by simp) ?_
      refine TL.bin hF rfl rfl rfl rfl ?_
      refine TL.pickT hF rfl (by simp) rfl rfl ?_
      refine TL.move hF rfl rfl ?_
      refine TL.on rfl rfl rfl (by simp) ?_
      refine TL.move hF rfl rfl ?_
      refine TL.on rfl rfl rfl (by simp) ?_
      refine TL.move hF rfl rfl ?_
      refine TL.on rfl rfl rfl (by simp) ?_
      refine TL.callV hF (Eq_same h35.ro h36.ro (seenS_len _ _)) rfl rfl ?_
      refine TL.pickT hF rfl (by simp) rfl rfl ?_
      refine TL.move hF rfl rfl ?_
      refine TL.on rfl rfl rfl (by simp) ?_
      refine TL.move hF rfl rfl ?_
      refine TL.on rfl rfl rfl (by simp) ?_
      refine TL.move hF rfl rfl ?_
      refine TL.on rfl rfl rfl (by simp) ?_
      refine TL.bin hF rfl rfl rfl rfl ?_
      refine TL.pickT hF rfl (by simp) rfl rfl ?_
      refine TL.move hF rfl rfl ?_
      refine TL.on rfl rfl rfl (by simp) ?_
      refine TL.call hF ordered_fn rfl rfl ?_
      rintro _ _ rfl
      refine TL.pickT hF rfl (by simp) rfl rfl ?_
      refine TL.assign hF rfl rfl ?_
      refine TL.nil ?_
      refine TQ.then_n ?_
      refine T.ret ?_
      exact TQ.retsF [6] _ hb rfl rfl rfl (fun _ => rfl)
end Go.Proofs.YteimjjpigohnhaaGreat
namespace Go.Proofs.YteimjjpigohnhaaGreat
open Go.Sl Go.ChangeShapes Go.WideShapes Go.ChangeAt Go.RowKit 
set_option maxRecDepth 100000 in
theorem orderFrontiers_lifted (os : Os) (started : os.Started) (H : Type) (enc : TypeId × Value → H) :
    ReturnsInHanded {} Tryz.checked os 6 .any (Rows.orderFrontiersSpec.pre6 enc Tryz.prog Tryz.f6 Rows.orderFrontiersRow.domain false) (Rows.orderFrontiersSpec.post enc Tryz.prog Tryz.f6 false true false false) := by
  refine returnsInHanded_of_change (C := Tryz.checked) Tryz.own started (by kernel_rfl) Tryz.func6
    (ChangeSpec.witness6 (enc := enc) (C := Tryz.checked) false ⟨#[], #[.slice none 0 0, .slice none 0 0, .slice none 0 0], []⟩ 8 (by kernel_rfl) (by kernel_rfl) (by kernel_rfl) (by kernel_rfl)) ?_
  intro W base args ds gs before hval hW hcnd _
  have hW' := hW
  obtain ⟨p, q, hA0, hV, rfl, hfz, hnd⟩ := hW
  have hA : DataW.TrodAll enc Tryz.prog W 0 (fun _ => true) true [32, 32, 22] args.toList ds p := hA0
  have hval' : ∀ (j : Nat) t v, (#[32, 32, 22] : Array TypeId)[j]? = some t → args[j]? = some v → Value.okWide Tryz.prog W .any base t v := hval
  obtain ⟨v0, v1, v2, d0, d1, d2, p0, p1, p2, rfl, rfl, rfl, h0, h1, h2⟩ := trodAll_three hA
  obtain ⟨_, _, _, rfl⟩ := okWide_slice u32 (hval' 0 32 v0 rfl rfl)
  obtain ⟨_, h0⟩ := h0
  obtain ⟨a0, ps0, c0, e0, hx0, hl0, hlx0⟩ := lists_read h0
  obtain ⟨_, _, _, rfl⟩ := okWide_slice u32 (hval' 1 32 v1 rfl rfl)
  obtain ⟨_, h1⟩ := h1
  obtain ⟨a1, ps1, c1, e1, hx1, hl1, hlx1⟩ := lists_read h1
  obtain ⟨_, _, _, rfl⟩ := okWide_slice u22 (hval' 2 22 v2 rfl rfl)
  obtain ⟨_, h2⟩ := h2
  obtain ⟨a2, xs2, c2, e2, hx2, hl2, hw2⟩ := time_read h2
  rw [e0, e1, e2] at hW' ⊢
  refine (calls_true (OrderFrontiers_fn hx0 hx1 hx2 hl0 hl1 hlx0 hlx1 hl2)).mono fun e W' ⟨he, hw⟩ => ⟨_, he, ?_⟩
  exact law_post (f := Tryz.f6) Tryz.laidOut rfl 4 rfl u4 hW' rfl (by decide +kernel) hw
theorem orderFrontiers_holds : Rows.OrderFrontiersSaid :=
  OpenClaim.holds_of_wide 6 Tryz.f6 rfl rfl rfl rfl rfl rfl rfl ⟨rfl, rfl, rfl, rfl, rfl⟩ rfl rfl rfl rfl rfl (by kernel_rfl) Tryz.func6 (by kernel_rfl)
    (of_decide_eq_true (by kernel_rfl)) (by unfold Func.isWrapper; first | (rw [if_pos (by decide +kernel)]; kernel_rfl) | (rw [if_neg (by decide +kernel)]; exact ⟨rfl, rfl⟩))
    (fun os started H enc _ => orderFrontiers_lifted os started H enc)
#print axioms orderFrontiers_holds
end Go.Proofs.YteimjjpigohnhaaGreat
