/- Several texts in one. -/
import Derived.Test.YteimjjpigohnhaaGreatSb
import Derived.Shelf.SlSortCmp.Whole1
import Derived.Ground.SlsfProg
import Derived.Test.YteimjjpigohnhaaGreatProg
/- Leaves: what is refused and recovered, small lists, words. -/
namespace Go.Proofs.YteimjjpigohnhaaGreat
open Go.Sl
variable {S : Nat → Prop} {w0 : World} {η : Heap}
set_option maxHeartbeats 2000000 in
theorem stopped_nil (p : Value) :
  Rt Tryz.prog 61 [.nilIface, p].toArray S w0 η (fun _ η' => η' = η) := by
 have hF := open_wide
 refine Rt.of (fn := Tryz.f61) Tryz.func61 rfl rfl ?_
 refine T.seq ?_
 refine T.seq ?_
 refine T.region ?_
 refine TL.move hF rfl rfl ?_
 refine TL.binR hF rfl rfl (r := .bool true) (fun w => by kernel_rfl) rfl ?_
 refine TL.nil ?_
 refine TQ.then_n ?_
 refine T.cond_t rfl rfl ?_
 refine T.ret ?_
 refine TQ.then_r ?_
 refine TQ.rets [] _ rfl rfl rfl ?_
 rfl
set_option maxHeartbeats 2000000 in
theorem stopped_err (code : Int) {b : Nat} {old : Value} {η1 : Heap} :
  Rt Tryz.prog 61 [.iface 105 (.agg #[.int .i64 code]), .pointer (some ⟨b, 0, none⟩)].toArray S w0 ([(b, .cells #[old] 26 (0, 0))] :: η1) (fun _ η' => η' = [(b, .cells #[.int .i64 code] 26 (0, 0))] :: η1) := by
 have hF := open_wide
 refine Rt.of (fn := Tryz.f61) Tryz.func61 rfl rfl ?_
 refine T.seq ?_
 refine T.seq ?_
 refine T.region ?_
 refine TL.move hF rfl rfl ?_
 refine TL.binR hF rfl rfl (r := .bool false) (fun w => by kernel_rfl) rfl ?_
 refine TL.nil ?_
 refine TQ.then_n ?_
 refine T.cond_f rfl rfl ?_
 refine T.skip ?_
 refine TQ.then_n ?_
 refine T.seq ?_
 refine T.region ?_
 refine TL.move hF rfl rfl ?_
 refine TL.typeAssertR hF rfl (r := .tuple #[.agg #[.int .i64 code], .bool true]) (fun w => by kernel_rfl) rfl ?_
 refine TL.move hF rfl rfl ?_
 refine TL.extract hF rfl rfl rfl ?_
 refine TL.extract hF rfl rfl rfl ?_
 refine TL.alloc hF rfl (fun b4 => ?_)
 refine TL.storeAI hF [.int .i64 code] 0 rfl rfl rfl rfl (by simp [Value.oneCell']) (by simp [Value.cells]) ?_
 refine TL.assign hF rfl rfl ?_
 refine TL.nil ?_
 refine TQ.then_n ?_
 refine T.seq ?_
 refine T.seq ?_
 refine T.region ?_
 refine TL.move hF rfl rfl ?_
 refine TL.not hF rfl rfl ?_
 refine TL.nil ?_
 refine TQ.then_n ?_
 refine T.cond_f rfl rfl ?_
 refine T.skip ?_
 refine TQ.then_n ?_
 refine T.region ?_
 refine TL.move hF rfl rfl ?_
 refine TL.fieldAddr hF rfl rfl ?_
 refine TL.load hF rfl (by first | exact At.own' (i := 0) rfl rfl | exact At.own' (i := 1) rfl rfl | exact At.own' (i := 2) rfl rfl | exact At.own' (i := 3) rfl rfl | exact At.own' (i := 4) rfl rfl | exact At.own' (i := 5) rfl rfl | exact At.own' (i := 6) rfl rfl | exact At.own' (i := 7) rfl rfl | exact At.own' (i := 8) rfl rfl | exact At.own' (i := 9) rfl rfl | exact At.own' (i := 10) rfl rfl | exact At.own' (i := 11) rfl rfl | exact At.own' (i := 12) rfl rfl) rfl ?_
 refine TL.nilCheck hF rfl rfl ?_
 refine TL.storeI hF 1 rfl rfl rfl rfl (by simp) ?_
 refine TL.nil ?_
 refine TQ.norm ?_
 refine TQ.pop ?_
 refine TQ.rets [] _ rfl rfl rfl ?_
 rfl
abbrev stopV (code : Int) : List PanicEntry := [{ v := .iface 105 (.agg #[.int .i64 code]), recovered := false }]
abbrev ERR : Nat := 26
set_option maxHeartbeats 2000000 in
theorem must_ok (code : Int) :
  Rt Tryz.prog 86 [.bool true, .int .i64 code].toArray S w0 η (fun _ η' => η' = η) := by
 have hF := open_wide
 refine Rt.of (fn := Tryz.f86) Tryz.func86 rfl rfl ?_
 refine T.seq ?_
 refine T.region ?_
 refine TL.move hF rfl rfl ?_
 refine TL.not hF rfl rfl ?_
 refine TL.nil ?_
 refine TQ.then_n ?_
 refine T.cond_f rfl rfl ?_
 refine T.skip ?_
 refine TQ.norm ?_
 refine TQ.rets [] _ rfl rfl rfl ?_
 rfl
set_option maxHeartbeats 2000000 in
theorem must_no (code : Int) :
  RtE Tryz.prog 86 [.bool false, .int .i64 code].toArray S w0 η (fun _ _ => False) (fun ch η' => ch = stopV code ∧ η' = η) := by
 have hF := open_wide
 refine RtE.of (fn := Tryz.f86) Tryz.func86 rfl rfl ?_
 refine T.seq ?_
 refine T.region ?_
 refine TL.move hF rfl rfl ?_
 refine TL.not hF rfl rfl ?_
 refine TL.nil ?_
 refine TQ.then_n ?_
 refine T.cond_t rfl rfl ?_
 refine T.region ?_
 refine TL.move hF rfl rfl ?_
 refine TL.build hF rfl (r := .agg #[.int .i64 code]) (fun w => by kernel_rfl) rfl ?_
 refine TL.makeInterfaceR hF rfl (r := .iface 105 (.agg #[.int .i64 code])) (fun w => by kernel_rfl) rfl ?_
 refine TL.panic hF rfl ?_
 exact TQ.panicE ⟨rfl, rfl⟩ --stop
theorem must_fn (is : Bool) (code : Int) : RtE Tryz.prog 86 [.bool is, .int .i64 code].toArray S w0 η (fun _ η' => is = true ∧ η' = η) (fun ch η' => is = false ∧ ch = stopV code ∧ η' = η) := by
 cases is
 ·exact (must_no code).mono (fun _ _ (h : False) => h.elim) (fun _ _ h => ⟨rfl, h⟩)
 ·exact (must_ok code).toE.mono (fun _ _ h => ⟨rfl, h⟩) (fun _ _ (h : False) => h.elim)
theorem stop60 : StopC Tryz.prog 60 61 := ⟨_, _, _, _, _, _, _, _, _, _, Tryz.func60, rfl, rfl, rfl⟩
theorem stop64 : StopC Tryz.prog 64 61 := ⟨_, _, _, _, _, _, _, _, _, _, Tryz.func64, rfl, rfl, rfl⟩
theorem stop66 : StopC Tryz.prog 66 61 := ⟨_, _, _, _, _, _, _, _, _, _, Tryz.func66, rfl, rfl, rfl⟩
theorem stop69 : StopC Tryz.prog 69 61 := ⟨_, _, _, _, _, _, _, _, _, _, Tryz.func69, rfl, rfl, rfl⟩
theorem stop71 : StopC Tryz.prog 71 61 := ⟨_, _, _, _, _, _, _, _, _, _, Tryz.func71, rfl, rfl, rfl⟩
theorem stop73 : StopC Tryz.prog 73 61 := ⟨_, _, _, _, _, _, _, _, _, _, Tryz.func73, rfl, rfl, rfl⟩
theorem stop77 : StopC Tryz.prog 77 61 := ⟨_, _, _, _, _, _, _, _, _, _, Tryz.func77, rfl, rfl, rfl⟩
theorem stop80 : StopC Tryz.prog 80 61 := ⟨_, _, _, _, _, _, _, _, _, _, Tryz.func80, rfl, rfl, rfl⟩
theorem stop82 : StopC Tryz.prog 82 61 := ⟨_, _, _, _, _, _, _, _, _, _, Tryz.func82, rfl, rfl, rfl⟩
theorem stop85 : StopC Tryz.prog 85 61 := ⟨_, _, _, _, _, _, _, _, _, _, Tryz.func85, rfl, rfl, rfl⟩
theorem stop87 : StopC Tryz.prog 87 61 := ⟨_, _, _, _, _, _, _, _, _, _, Tryz.func87, rfl, rfl, rfl⟩
theorem stop89 : StopC Tryz.prog 89 61 := ⟨_, _, _, _, _, _, _, _, _, _, Tryz.func89, rfl, rfl, rfl⟩
theorem stop92 : StopC Tryz.prog 92 61 := ⟨_, _, _, _, _, _, _, _, _, _, Tryz.func92, rfl, rfl, rfl⟩
theorem stop93 : StopC Tryz.prog 93 61 := ⟨_, _, _, _, _, _, _, _, _, _, Tryz.func93, rfl, rfl, rfl⟩
theorem stop94 : StopC Tryz.prog 94 61 := ⟨_, _, _, _, _, _, _, _, _, _, Tryz.func94, rfl, rfl, rfl⟩
set_option maxHeartbeats 2000000 in
theorem Lies_fn (n low high : Int) :
  Rt Tryz.prog 132 [.int .i64 n, .int .i64 low, .int .i64 high].toArray S w0 η (fun v η' => v = .bool (decide (low ≤ n) && decide (n ≤ high)) ∧ η' = η) := by
 have hF := open_wide
 refine Rt.of (fn := Tryz.f132) Tryz.func132 rfl rfl ?_
 refine T.seq ?_
 refine T.region ?_
 refine TL.assign hF rfl rfl ?_
 refine TL.nil ?_
 refine TQ.then_n ?_
 refine T.seq ?_
 refine T.region ?_
 refine TL.move hF rfl rfl ?_
 refine TL.move hF rfl rfl ?_
 refine TL.bin hF rfl rfl rfl rfl ?_
 refine TL.move hF rfl rfl ?_
 refine TL.gd (t := 10) rfl (fun g1_10 => ?_) (fun g1_10 => ?_)
 ·refine TL.on rfl rfl rfl (decide_eq_true g1_10) ?_
  refine TL.move hF rfl rfl ?_
  refine TL.on rfl rfl rfl (decide_eq_true g1_10) ?_
  refine TL.move hF rfl rfl ?_
  refine TL.on rfl rfl rfl (decide_eq_true g1_10) ?_
  refine TL.bin hF rfl rfl rfl rfl ?_
  refine TL.pickT hF rfl (decide_eq_true g1_10) rfl rfl ?_
  refine TL.assign hF rfl rfl ?_
  refine TL.nil ?_
  refine TQ.then_n ?_
  refine T.ret ?_
  refine TQ.rets [6] _ rfl rfl rfl ?_
  exact ⟨by simp [retVal, *], rfl⟩
 ·refine TL.off hF rfl rfl rfl (decide_eq_false g1_10) rfl ?_
  refine TL.off hF rfl rfl rfl (decide_eq_false g1_10) rfl ?_
  refine TL.off hF rfl rfl rfl (decide_eq_false g1_10) rfl ?_
  refine TL.pickF hF rfl (decide_eq_false g1_10) rfl rfl ?_
  refine TL.assign hF rfl rfl ?_
  refine TL.nil ?_
  refine TQ.then_n ?_
  refine T.ret ?_
  refine TQ.rets [6] _ rfl rfl rfl ?_
  exact ⟨by simp [retVal, *], rfl⟩
set_option maxHeartbeats 2000000 in
theorem Equal_fn {a b : Option Addr} {xs ys : List Int} {ca cb : Nat} (hx : Row S w0 η a (ints xs)) (hy : Row S w0 η b (ints ys)) (hl : xs.length < 2 ^ 63) :
  Rt Tryz.prog 18 [.slice a xs.length ca, .slice b ys.length cb].toArray S w0 η (fun v η' => v = .bool (decide (xs = ys)) ∧ η' = η) := by
 have hF := open_wide
 refine Rt.of (fn := Tryz.f18) Tryz.func18 rfl rfl ?_
 refine T.seq ?_
 refine T.region ?_
 refine TL.assign hF rfl rfl ?_
 refine TL.nil ?_
 refine TQ.then_n ?_
 refine T.seq ?_
 refine T.region ?_
 refine TL.move hF rfl rfl ?_
 refine TL.len hF rfl rfl ?_
 refine TL.move hF rfl rfl ?_
 refine TL.len hF rfl rfl ?_
 refine TL.bin hF rfl rfl rfl rfl ?_
 refine TL.assign hF rfl rfl ?_
 refine TL.nil ?_
 refine TQ.then_n ?_
 refine T.seq ?_
 refine T.seq ?_
 refine T.region ?_
 refine TL.assign hF rfl rfl ?_
 refine TL.nil ?_
 refine TQ.then_n ?_
 refine T.block ?_
 refine T.loop (ι := Nat × Bool) (fun i => i.1 ≤ xs.length ∧ (i.2 = true → xs.length = ys.length ∧ xs.take i.1 = ys.take i.1) ∧ (i.2 = false → xs ≠ ys)) (fun i => [(0, .slice a xs.length ca), (1, .slice b ys.length cb), (5, .bool i.2), (6, .int .i64 (i.1 : Int))]) (fun _ => η) (fun i => xs.length - i.1) (0, decide ((xs.length : Int) = ys.length)) ⟨Nat.zero_le _, fun h => ⟨by simpa [Int.ofNat_inj] using h, by simp⟩, fun h e => by subst e; simp at h⟩ ⟨rfl, rfl, rfl, rfl, trivial⟩ rfl ?_
 rintro ⟨k, s⟩ ⟨hk, hs1, hs2⟩
 simp only at hk hs1 hs2
 refine T.seq ?_
 refine T.seq ?_
 refine T.region ?_
 refine TL.move hF rfl rfl ?_
 refine TL.move hF rfl rfl ?_
 refine TL.gb (t := 13) rfl (fun g3_13 => ?_) (fun g3_13 => ?_)
 ·refine TL.on rfl rfl rfl g3_13 ?_
  refine TL.move hF rfl rfl ?_
  refine TL.on rfl rfl rfl g3_13 ?_
  refine TL.move hF rfl rfl ?_
  refine TL.on rfl rfl rfl g3_13 ?_
  refine TL.len hF rfl rfl ?_
  refine TL.on rfl rfl rfl g3_13 ?_
  refine TL.bin hF rfl rfl rfl rfl ?_
  refine TL.pickT hF rfl g3_13 rfl rfl ?_
  refine TL.nil ?_
  refine TQ.then_n ?_
  first | refine T.cond_d rfl (fun ht18 => ?_) (fun ht18 => ?_) | refine T.cond _ rfl (fun ht18 => ?_) (fun ht18 => ?_)
  ·refine T.skip ?_
   refine TQ.then_n ?_
   refine T.seq ?_
   refine T.block ?_
   refine T.draw ?_
   refine DR.stepV [_] rfl [(0, _, none)] rfl rfl ⟨⟨rfl, by kernel_rfl⟩, trivial⟩ (fun ext => TL.move hF rfl rfl TL.fin) ?_
   refine DR.stepV [_, _] rfl [(6, _, none)] rfl rfl ⟨⟨rfl, by kernel_rfl⟩, trivial⟩ (fun ext => TL.move hF rfl rfl TL.fin) ?_
   refine DR.stepV [_, _, _] rfl [(21, _, some 0), (22, _, some 1)] rfl rfl ⟨⟨rfl, rfl, rfl⟩, ⟨rfl, rfl, rfl⟩, trivial⟩ (fun ext => TL.indexAddr hF rfl rfl (hx.adi (i := k) (by simp; omega)) (by omega) (by omega) rfl TL.fin) ?_
   refine DR.stepV [_, _, _, _] rfl [(23, _, some 2)] rfl rfl ⟨⟨rfl, rfl, rfl⟩, trivial⟩ (fun ext => TL.load hF rfl (hx.int (i := k) (by omega)) rfl TL.fin) ?_
   refine DR.stepV [_, _, _, _, _] rfl [(1, _, none)] rfl rfl ⟨⟨rfl, by kernel_rfl⟩, trivial⟩ (fun ext => TL.move hF rfl rfl TL.fin) ?_
   refine DR.stepV [_, _, _, _, _, _] rfl [(6, _, none)] rfl rfl ⟨⟨rfl, by kernel_rfl⟩, trivial⟩ (fun ext => TL.move hF rfl rfl TL.fin) ?_
   refine DR.stepV [_, _, _, _, _, _, _] rfl [(25, _, some 4), (26, _, some 5)] rfl rfl ⟨⟨rfl, rfl, rfl⟩, ⟨rfl, rfl, rfl⟩, trivial⟩ (fun ext => TL.indexAddr hF rfl rfl (hy.adi (i := k) (by simp; have := (hs1 g3_13).1; omega)) (by omega) (by have := (hs1 g3_13).1; omega) rfl TL.fin) ?_
   refine DR.stepV [_, _, _, _, _, _, _, _] rfl [(27, _, some 6)] rfl rfl ⟨⟨rfl, rfl, rfl⟩, trivial⟩ (fun ext => TL.load hF rfl (hy.int (i := k) (by have := (hs1 g3_13).1; omega)) rfl TL.fin) ?_
   refine DR.done [(28, _), (27, _), (26, _), (25, _), (24, _), (23, _), (22, _), (21, _)] [_, _] mixed (by kernel_rfl) (by kernel_rfl) (by kernel_rfl) rfl rfl ?_
   refine TL.bin hF rfl rfl rfl rfl ?_
   refine TL.assign hF rfl rfl ?_
   refine TL.nil ?_
   refine TQ.block_n ?_
   refine TQ.then_n ?_
   refine T.region ?_
   refine TL.move hF rfl rfl ?_
   refine TL.add hF rfl rfl (by omega) (by omega) rfl ?_
   refine TL.assign hF rfl rfl ?_
   refine TL.nil ?_
   refine TQ.round (k + 1, decide (xs[k]'(by omega) = ys[k]'(by have := (hs1 g3_13).1; omega))) ⟨by simp only; omega, fun h => ⟨(hs1 g3_13).1, take_succ_eq _ _ (hs1 g3_13).2 (of_decide_eq_true h)⟩, fun h => ne_of_getElem _ _ (of_decide_eq_false h)⟩ (by simp only; omega) ⟨rfl, rfl, rfl, rfl, trivial⟩ rfl
  ·refine T.exit ?_
   refine TQ.then_x ?_
   refine TQ.then_x ?_
   refine TQ.block_x ?_
   refine TQ.then_n ?_
   refine T.seq ?_
   refine T.region ?_
   refine TL.move hF rfl rfl ?_
   refine TL.assign hF rfl rfl ?_
   refine TL.nil ?_
   refine TQ.then_n ?_
   refine T.ret ?_
   refine TQ.rets [4] _ rfl rfl rfl ?_
   subst g3_13
   have h1 := hs1 rfl
   have h2 : xs = ys := by have := h1.2; rwa [List.take_of_length_le (by omega), List.take_of_length_le (by omega)] at this
   exact ⟨by simp [retVal, h2], rfl⟩
 ·refine TL.off hF rfl rfl rfl g3_13 rfl ?_
  refine TL.off hF rfl rfl rfl g3_13 rfl ?_
  refine TL.off hF rfl rfl rfl g3_13 rfl ?_
  refine TL.off hF rfl rfl rfl g3_13 rfl ?_
  refine TL.pickF hF rfl g3_13 rfl rfl ?_
  refine TL.nil ?_
  refine TQ.then_n ?_
  refine T.cond_f rfl rfl ?_
  refine T.exit ?_
  refine TQ.then_x ?_
  refine TQ.then_x ?_
  refine TQ.block_x ?_
  refine TQ.then_n ?_
  refine T.seq ?_
  refine T.region ?_
  refine TL.move hF rfl rfl ?_
  refine TL.assign hF rfl rfl ?_
  refine TL.nil ?_
  refine TQ.then_n ?_
  refine T.ret ?_
  refine TQ.rets [4] _ rfl rfl rfl ?_
  subst g3_13
  exact ⟨by simp [retVal, hs2 rfl], rfl⟩
set_option maxHeartbeats 2000000 in
theorem EqualLists_fn {a b : Option Addr} {ps qs : List HL} {ca cb : Nat} (hx : LL S w0 η a ps) (hy : LL S w0 η b qs) (hl : ps.length < 2 ^ 63) (hlx : ∀ p ∈ ps, p.2.1.length < 2 ^ 63) :
  Rt Tryz.prog 35 [.slice a ps.length ca, .slice b qs.length cb].toArray S w0 η (fun v η' => v = .bool (decide (tx ps = tx qs)) ∧ η' = η) := by
 have hF := open_wide
 refine Rt.of (fn := Tryz.f35) Tryz.func35 rfl rfl ?_
 refine T.seq ?_
 refine T.region ?_
 refine TL.assign hF rfl rfl ?_
 refine TL.nil ?_
 refine TQ.then_n ?_
 refine T.seq ?_
 refine T.region ?_
 refine TL.move hF rfl rfl ?_
 refine TL.len hF rfl rfl ?_
 refine TL.move hF rfl rfl ?_
 refine TL.len hF rfl rfl ?_
 refine TL.bin hF rfl rfl rfl rfl ?_
 refine TL.assign hF rfl rfl ?_
 refine TL.nil ?_
 refine TQ.then_n ?_
 refine T.seq ?_
 refine T.seq ?_
 refine T.region ?_
 refine TL.assign hF rfl rfl ?_
 refine TL.nil ?_
 refine TQ.then_n ?_
 refine T.block ?_
 refine T.loop (ι := Nat × Bool) (fun i => i.1 ≤ ps.length ∧ (i.2 = true → ps.length = qs.length ∧ (tx ps).take i.1 = (tx qs).take i.1) ∧ (i.2 = false → tx ps ≠ tx qs)) (fun i => [(0, .slice a ps.length ca), (1, .slice b qs.length cb), (5, .bool i.2), (6, .int .i64 (i.1 : Int))]) (fun _ => η) (fun i => ps.length - i.1) (0, decide ((ps.length : Int) = qs.length)) ⟨Nat.zero_le _, fun h => ⟨by simpa [Int.ofNat_inj] using h, by simp⟩, fun h e => by have e2 := congrArg List.length e; rw [tx_len, tx_len] at e2; simp [e2] at h⟩ ⟨rfl, rfl, rfl, rfl, trivial⟩ rfl ?_
 rintro ⟨k, s⟩ ⟨hk, hs1, hs2⟩
 simp only at hk hs1 hs2
 refine T.seq ?_
 refine T.seq ?_
 refine T.region ?_
 refine TL.move hF rfl rfl ?_
 refine TL.move hF rfl rfl ?_
 refine TL.gb (t := 13) rfl (fun g3_13 => ?_) (fun g3_13 => ?_)
 ·refine TL.on rfl rfl rfl g3_13 ?_
  refine TL.move hF rfl rfl ?_
  refine TL.on rfl rfl rfl g3_13 ?_
  refine TL.move hF rfl rfl ?_
  refine TL.on rfl rfl rfl g3_13 ?_
  refine TL.len hF rfl rfl ?_
  refine TL.on rfl rfl rfl g3_13 ?_
  refine TL.bin hF rfl rfl rfl rfl ?_
  refine TL.pickT hF rfl g3_13 rfl rfl ?_
  refine TL.nil ?_
  refine TQ.then_n ?_
  first | refine T.cond_d rfl (fun ht18 => ?_) (fun ht18 => ?_) | refine T.cond _ rfl (fun ht18 => ?_) (fun ht18 => ?_)
  ·refine T.skip ?_
   refine TQ.then_n ?_
   refine T.seq ?_
   refine T.block ?_
   refine T.draw ?_
   refine DR.stepV [_] rfl [(0, _, none)] rfl rfl ⟨⟨rfl, by kernel_rfl⟩, trivial⟩ (fun ext => TL.move hF rfl rfl TL.fin) ?_
   refine DR.stepV [_, _] rfl [(6, _, none)] rfl rfl ⟨⟨rfl, by kernel_rfl⟩, trivial⟩ (fun ext => TL.move hF rfl rfl TL.fin) ?_
   refine DR.stepV [_, _, _] rfl [(21, _, some 0), (22, _, some 1)] rfl rfl ⟨⟨rfl, rfl, rfl⟩, ⟨rfl, rfl, rfl⟩, trivial⟩ (fun ext => TL.indexAddr hF rfl rfl (hx.ad (i := k) (by omega)) (by omega) (by omega) rfl TL.fin) ?_
   refine DR.stepV [_, _, _, _] rfl [(23, _, some 2)] rfl rfl ⟨⟨rfl, rfl, rfl⟩, trivial⟩ (fun ext => TL.load hF rfl (hx.at (i := k) (by omega)) rfl TL.fin) ?_
   refine DR.stepV [_, _, _, _, _] rfl [(1, _, none)] rfl rfl ⟨⟨rfl, by kernel_rfl⟩, trivial⟩ (fun ext => TL.move hF rfl rfl TL.fin) ?_
   refine DR.stepV [_, _, _, _, _, _] rfl [(6, _, none)] rfl rfl ⟨⟨rfl, by kernel_rfl⟩, trivial⟩ (fun ext => TL.move hF rfl rfl TL.fin) ?_
   refine DR.stepV [_, _, _, _, _, _, _] rfl [(25, _, some 4), (26, _, some 5)] rfl rfl ⟨⟨rfl, rfl, rfl⟩, ⟨rfl, rfl, rfl⟩, trivial⟩ (fun ext => TL.indexAddr hF rfl rfl (hy.ad (i := k) (by have := (hs1 g3_13).1; omega)) (by omega) (by have := (hs1 g3_13).1; omega) rfl TL.fin) ?_
   refine DR.stepV [_, _, _, _, _, _, _, _] rfl [(27, _, some 6)] rfl rfl ⟨⟨rfl, rfl, rfl⟩, trivial⟩ (fun ext => TL.load hF rfl (hy.at (i := k) (by have := (hs1 g3_13).1; omega)) rfl TL.fin) ?_
   refine DR.done [(28, _), (27, _), (26, _), (25, _), (24, _), (23, _), (22, _), (21, _)] [_, _] mixed (by kernel_rfl) (by kernel_rfl) (by kernel_rfl) rfl rfl ?_
   refine TL.callV hF (Equal_fn (hx.it (by omega)) (hy.it (by have := (hs1 g3_13).1; omega)) (hlx _ (List.getElem_mem _))) rfl rfl ?_
   refine TL.assign hF rfl rfl ?_
   refine TL.nil ?_
   refine TQ.block_n ?_
   refine TQ.then_n ?_
   refine T.region ?_
   refine TL.move hF rfl rfl ?_
   refine TL.add hF rfl rfl (by omega) (by omega) rfl ?_
   refine TL.assign hF rfl rfl ?_
   refine TL.nil ?_
   have hq : k < qs.length := by have := (hs1 g3_13).1; omega
   refine TQ.round (k + 1, decide ((ps[k]'(by omega)).2.1 = (qs[k]'hq).2.1)) ⟨by simp only; omega, fun h => ⟨(hs1 g3_13).1, take_succ_eq (by rw [tx_len]; omega) (by rw [tx_len]; omega) (hs1 g3_13).2 (by rw [tx_get (by omega), tx_get hq]; exact of_decide_eq_true h)⟩, fun h => ne_of_getElem (k := k) (by rw [tx_len]; omega) (by rw [tx_len]; omega) (by rw [tx_get (by omega), tx_get hq]; exact of_decide_eq_false h)⟩ (by simp only; omega) ⟨rfl, rfl, rfl, rfl, trivial⟩ rfl
  ·refine T.exit ?_
   refine TQ.then_x ?_
   refine TQ.then_x ?_
   refine TQ.block_x ?_
   refine TQ.then_n ?_
   refine T.seq ?_
   refine T.region ?_
   refine TL.move hF rfl rfl ?_
   refine TL.assign hF rfl rfl ?_
   refine TL.nil ?_
   refine TQ.then_n ?_
   refine T.ret ?_
   refine TQ.rets [4] _ rfl rfl rfl ?_
   subst g3_13
   have h1 := hs1 rfl
   have h2 : tx ps = tx qs := by have := h1.2; rwa [List.take_of_length_le (by rw [tx_len]; omega), List.take_of_length_le (by rw [tx_len]; omega)] at this
   exact ⟨by simp [retVal, h2], rfl⟩
 ·refine TL.off hF rfl rfl rfl g3_13 rfl ?_
  refine TL.off hF rfl rfl rfl g3_13 rfl ?_
  refine TL.off hF rfl rfl rfl g3_13 rfl ?_
  refine TL.off hF rfl rfl rfl g3_13 rfl ?_
  refine TL.pickF hF rfl g3_13 rfl rfl ?_
  refine TL.nil ?_
  refine TQ.then_n ?_
  refine T.cond_f rfl rfl ?_
  refine T.exit ?_
  refine TQ.then_x ?_
  refine TQ.then_x ?_
  refine TQ.block_x ?_
  refine TQ.then_n ?_
  refine T.seq ?_
  refine T.region ?_
  refine TL.move hF rfl rfl ?_
  refine TL.assign hF rfl rfl ?_
  refine TL.nil ?_
  refine TQ.then_n ?_
  refine T.ret ?_
  refine TQ.rets [4] _ rfl rfl rfl ?_
  subst g3_13
  exact ⟨by simp [retVal, hs2 rfl], rfl⟩
/-- A number from 0 to one less than another one. -/
def turnI (n m : Int) : Int := if m < 1 then 0 else n % m
theorem tmod_emod (n : Int) {m : Int} (h : 0 < m) : (if Int.tmod n m < 0 then Int.tmod n m + m else Int.tmod n m) = n % m := by
 have h1 := Int.emod_nonneg n (b := m) (by omega)
 have h2 := Int.emod_lt_of_pos n h
 have e := Int.tmod_eq_emod (a := n) (b := m)
 split at e <;> split <;> omega
theorem turnI_range (n : Int) {m : Int} (h : 1 ≤ m) : 0 ≤ turnI n m ∧ turnI n m < m := by
 unfold turnI
 rw [if_neg (by omega)]
 exact ⟨Int.emod_nonneg n (by omega), Int.emod_lt_of_pos n (by omega)⟩
theorem tmod_range (n : Int) {m : Int} (h : 0 < m) : -m < Int.tmod n m ∧ Int.tmod n m < m := by
 have h1 := Int.tmod_lt_of_pos n h
 have h2 := Int.tmod_lt_of_pos (-n) h
 rw [Int.neg_tmod] at h2
 omega
set_option maxHeartbeats 2000000 in
theorem Turn_fn (n : Int) {m : Int} (hm : m ≤ 9223372036854775807) :
  Rt Tryz.prog 13 [.int .i64 n, .int .i64 m].toArray S w0 η (fun v η' => v = .int .i64 (turnI n m) ∧ η' = η) := by
 have hF := open_wide
 refine Rt.of (fn := Tryz.f13) Tryz.func13 rfl rfl ?_
 refine T.seq ?_
 refine T.region ?_
 refine TL.assign hF rfl rfl ?_
 refine TL.nil ?_
 refine TQ.then_n ?_
 refine T.seq ?_
 refine T.seq ?_
 refine T.region ?_
 refine TL.move hF rfl rfl ?_
 refine TL.bin hF rfl rfl rfl rfl ?_
 refine TL.nil ?_
 refine TQ.then_n ?_
 first | refine T.cond_d rfl (fun ht7 => ?_) (fun ht7 => ?_) | refine T.cond _ rfl (fun ht7 => ?_) (fun ht7 => ?_)
 ·refine T.seq ?_
  refine T.region ?_
  refine TL.assign hF rfl rfl ?_
  refine TL.nil ?_
  refine TQ.then_n ?_
  refine T.ret ?_
  refine TQ.then_r ?_
  refine TQ.rets [4] _ rfl rfl rfl ?_
  exact ⟨by unfold turnI; rw [if_pos ht7]; rfl, rfl⟩
 ·refine T.skip ?_
  refine TQ.then_n ?_
  refine T.seq ?_
  refine T.region ?_
  refine TL.move hF rfl rfl ?_
  refine TL.move hF rfl rfl ?_
  have hr := tmod_range n (m := m) (by omega)
  refine TL.remI hF rfl rfl (by omega) rfl ?_
  refine TL.assign hF rfl rfl ?_
  refine TL.nil ?_
  refine TQ.then_n ?_
  refine T.seq ?_
  refine T.seq ?_
  refine T.region ?_
  refine TL.move hF rfl rfl ?_
  refine TL.bin hF rfl rfl rfl rfl ?_
  refine TL.nil ?_
  refine TQ.then_n ?_
  first | refine T.cond_d rfl (fun ht12 => ?_) (fun ht12 => ?_) | refine T.cond _ rfl (fun ht12 => ?_) (fun ht12 => ?_)
  ·refine T.region ?_
   refine TL.move hF rfl rfl ?_
   refine TL.move hF rfl rfl ?_
   refine TL.add hF rfl rfl (by omega) (by omega) rfl ?_
   refine TL.assign hF rfl rfl ?_
   refine TL.nil ?_
   refine TQ.then_n ?_
   refine T.seq ?_
   refine T.region ?_
   refine TL.move hF rfl rfl ?_
   refine TL.assign hF rfl rfl ?_
   refine TL.nil ?_
   refine TQ.then_n ?_
   refine T.ret ?_
   refine TQ.rets [4] _ rfl rfl rfl ?_
   exact ⟨by have e := tmod_emod n (m := m) (by omega); rw [if_pos ht12] at e; unfold turnI; rw [if_neg ht7, ← e]; rfl, rfl⟩
  ·refine T.skip ?_
   refine TQ.then_n ?_
   refine T.seq ?_
   refine T.region ?_
   refine TL.move hF rfl rfl ?_
   refine TL.assign hF rfl rfl ?_
   refine TL.nil ?_
   refine TQ.then_n ?_
   refine T.ret ?_
   refine TQ.rets [4] _ rfl rfl rfl ?_
   exact ⟨by have e := tmod_emod n (m := m) (by omega); rw [if_neg ht12] at e; unfold turnI; rw [if_neg ht7, ← e]; rfl, rfl⟩
/-- The number at a place of a list, round and round. -/
def nthI (l : List Int) (at' : Int) : Int := if l.length = 0 then 0 else l.getD (turnI at' l.length).toNat 0
set_option maxHeartbeats 2000000 in
theorem Nth_fn {a : Option Addr} {xs : List Int} {c : Nat} (at' : Int) (hx : Row S w0 η a (ints xs)) (hl : xs.length < 2 ^ 63) :
  Rt Tryz.prog 15 [.slice a xs.length c, .int .i64 at'].toArray S w0 η (fun v η' => v = .int .i64 (nthI xs at') ∧ η' = η) := by
 have hF := open_wide
 refine Rt.of (fn := Tryz.f15) Tryz.func15 rfl rfl ?_
 refine T.seq ?_
 refine T.region ?_
 refine TL.assign hF rfl rfl ?_
 refine TL.nil ?_
 refine TQ.then_n ?_
 refine T.seq ?_
 refine T.seq ?_
 refine T.region ?_
 refine TL.move hF rfl rfl ?_
 refine TL.len hF rfl rfl ?_
 refine TL.bin hF rfl rfl rfl rfl ?_
 refine TL.nil ?_
 refine TQ.then_n ?_
 first | refine T.cond_d rfl (fun ht7 => ?_) (fun ht7 => ?_) | refine T.cond _ rfl (fun ht7 => ?_) (fun ht7 => ?_)
 ·refine T.seq ?_
  refine T.region ?_
  refine TL.assign hF rfl rfl ?_
  refine TL.nil ?_
  refine TQ.then_n ?_
  refine T.ret ?_
  refine TQ.then_r ?_
  refine TQ.rets [4] _ rfl rfl rfl ?_
  exact ⟨by unfold nthI; rw [if_pos (by omega)]; rfl, rfl⟩
 ·refine T.skip ?_
  refine TQ.then_n ?_
  refine T.seq ?_
  refine T.region ?_
  refine TL.move hF rfl rfl ?_
  refine TL.move hF rfl rfl ?_
  refine TL.move hF rfl rfl ?_
  refine TL.len hF rfl rfl ?_
  refine TL.callV hF (Turn_fn at' (m := (xs.length : Int)) (by omega)) rfl rfl ?_
  have hr := turnI_range at' (m := (xs.length : Int)) (by omega)
  refine TL.indexAddr hF rfl rfl (hx.adi (i := 0) (by simp; omega)) (by omega) (by omega) rfl ?_
  refine TL.load hF rfl (hx.int (i := (turnI at' xs.length).toNat) (by omega)) rfl ?_
  refine TL.assign hF rfl rfl ?_
  refine TL.nil ?_
  refine TQ.then_n ?_
  refine T.ret ?_
  refine TQ.rets [4] _ rfl rfl rfl ?_
  exact ⟨by unfold nthI; rw [if_neg (by omega), List.getD_eq_getElem?_getD, List.getElem?_eq_getElem (by omega)]; rfl, rfl⟩
set_option maxHeartbeats 2000000 in
theorem early_fn {a b : Option Addr} {xs ys : List Int} {c d : Nat} (hx : Row S w0 η a (ints xs)) (hy : Row S w0 η b (ints ys)) (hl : xs.length = ys.length) (hb : xs.length < 2 ^ 63) :
  Rt Tryz.prog 68 [.slice a xs.length c, .slice b ys.length d].toArray S w0 η (fun v η' => v = .bool (tle xs ys) ∧ η' = η) := by
 have hF := open_wide
 refine Rt.of (fn := Tryz.f68) Tryz.func68 rfl rfl ?_
 refine T.seq ?_
 refine T.region ?_
 refine TL.assign hF rfl rfl ?_
 refine TL.nil ?_
 refine TQ.then_n ?_
 refine T.seq ?_
 refine T.seq ?_
 refine T.region ?_
 refine TL.move hF rfl rfl ?_
 refine TL.len hF rfl rfl ?_
 refine TL.move hF rfl rfl ?_
 refine TL.nil ?_
 refine TQ.then_n ?_
 refine T.block ?_
 refine T.loop (ι := Nat) (fun k => k ≤ xs.length ∧ tle xs ys = tle (xs.drop k) (ys.drop k)) (fun k => [(1, .slice b ys.length d), (7, .slice a xs.length c), (8, .int .i64 (xs.length : Int)), (9, .int .i64 (k : Int))]) (fun _ => η) (fun k => xs.length - k) 0 ⟨Nat.zero_le _, by simp⟩ ⟨rfl, rfl, rfl, rfl, trivial⟩ rfl ?_
 rintro k ⟨hk, hs⟩
 refine T.seq ?_
 refine T.region ?_
 refine TL.bin hF rfl rfl rfl rfl ?_
 refine TL.nil ?_
 refine TQ.then_n ?_
 refine T.seq ?_
 first | refine T.cond_d rfl (fun ht10 => ?_) (fun ht10 => ?_) | refine T.cond _ rfl (fun ht10 => ?_) (fun ht10 => ?_)
 ·refine T.skip ?_
  refine TQ.then_n ?_
  refine T.seq ?_
  refine T.block ?_
  refine T.seq ?_
  refine T.region ?_
  refine TL.move hF rfl rfl ?_
  refine TL.indexAddr hF rfl rfl (hx.adi (i := k) (by simp; omega)) (by omega) (by omega) rfl ?_
  refine TL.load hF rfl (hx.int (i := k) (by omega)) rfl ?_
  refine TL.assign hF rfl rfl ?_
  refine TL.assign hF rfl rfl ?_
  refine TL.nil ?_
  refine TQ.then_n ?_
  refine T.seq ?_
  refine T.region ?_
  refine TL.move hF rfl rfl ?_
  refine TL.move hF rfl rfl ?_
  refine TL.move hF rfl rfl ?_
  refine TL.indexAddr hF rfl rfl (hy.adi (i := k) (by simp; omega)) (by omega) (by omega) rfl ?_
  refine TL.load hF rfl (hy.int (i := k) (by omega)) rfl ?_
  refine TL.bin hF rfl rfl rfl rfl ?_
  refine TL.nil ?_
  refine TQ.then_n ?_
  first | refine T.cond_d rfl (fun ht19 => ?_) (fun ht19 => ?_) | refine T.cond _ rfl (fun ht19 => ?_) (fun ht19 => ?_)
  ·refine T.seq ?_
   refine T.region ?_
   refine TL.assign hF rfl rfl ?_
   refine TL.nil ?_
   refine TQ.then_n ?_
   refine T.ret ?_
   refine TQ.block_r ?_
   refine TQ.then_r ?_
   refine TQ.then_r ?_
   refine TQ.block_r ?_
   refine TQ.then_r ?_
   refine TQ.rets [4] _ rfl rfl rfl ?_
   exact ⟨by rw [hs, drop_step (l := xs) (by omega), drop_step (l := ys) (by omega), tle, decide_eq_false (by omega)]; rfl, rfl⟩
  ·refine T.skip ?_
   refine TQ.block_n ?_
   refine TQ.then_n ?_
   refine T.region ?_
   refine TL.add hF rfl rfl (by omega) (by omega) rfl ?_
   refine TL.move hF rfl rfl ?_
   refine TL.nil ?_
   refine TQ.round (k + 1) ⟨by omega, by rw [hs, drop_step (l := xs) (by omega), drop_step (l := ys) (by omega), tle, decide_eq_true (by omega), Bool.true_and]⟩ (by omega) ⟨rfl, rfl, rfl, rfl, trivial⟩ rfl
 ·refine T.exit ?_
  refine TQ.then_x ?_
  refine TQ.then_x ?_
  refine TQ.block_x ?_
  refine TQ.then_n ?_
  refine T.seq ?_
  refine T.region ?_
  refine TL.assign hF rfl rfl ?_
  refine TL.nil ?_
  refine TQ.then_n ?_
  refine T.ret ?_
  refine TQ.rets [4] _ rfl rfl rfl ?_
  exact ⟨by rw [hs, List.drop_of_length_le (by omega), List.drop_of_length_le (by omega)]; rfl, rfl⟩
set_option maxHeartbeats 2000000 in
theorem late_fn {a b : Option Addr} {xs ys : List Int} {c d : Nat} (hx : Row S w0 η a (ints xs)) (hy : Row S w0 η b (ints ys)) (hl : xs.length = ys.length) (hb : xs.length < 2 ^ 63) :
  Rt Tryz.prog 126 [.slice a xs.length c, .slice b ys.length d].toArray S w0 η (fun v η' => v = .bool (tle ys xs) ∧ η' = η) := by
 have hF := open_wide
 refine Rt.of (fn := Tryz.f126) Tryz.func126 rfl rfl ?_
 refine T.seq ?_
 refine T.region ?_
 refine TL.assign hF rfl rfl ?_
 refine TL.nil ?_
 refine TQ.then_n ?_
 refine T.seq ?_
 refine T.region ?_
 refine TL.move hF rfl rfl ?_
 refine TL.move hF rfl rfl ?_
 refine TL.callV hF (early_fn hy hx hl.symm (by omega)) rfl rfl ?_
 refine TL.assign hF rfl rfl ?_
 refine TL.nil ?_
 refine TQ.then_n ?_
 refine T.ret ?_
 refine TQ.rets [4] _ rfl rfl rfl ?_
 exact ⟨rfl, rfl⟩
set_option maxHeartbeats 2000000 in
theorem SEqual_fn {a b : Option Addr} {xs ys : List Int} {c d : Nat} (hx : Row S w0 η a (ints xs)) (hy : Row S w0 η b (ints ys)) (hb : xs.length < 2 ^ 63) :
  Rt Tryz.prog 125 [.slice a xs.length c, .slice b ys.length d].toArray S w0 η (fun v η' => v = .bool (decide (xs = ys)) ∧ η' = η) := by
 have hF := open_wide
 refine Rt.of (fn := Tryz.f125) Tryz.func125 rfl rfl ?_
 refine T.seq ?_
 refine T.region ?_
 refine TL.assign hF rfl rfl ?_
 refine TL.nil ?_
 refine TQ.then_n ?_
 refine T.seq ?_
 refine T.seq ?_
 refine T.region ?_
 refine TL.move hF rfl rfl ?_
 refine TL.len hF rfl rfl ?_
 refine TL.move hF rfl rfl ?_
 refine TL.len hF rfl rfl ?_
 refine TL.bin hF rfl rfl rfl rfl ?_
 refine TL.nil ?_
 refine TQ.then_n ?_
 first | refine T.cond_d rfl (fun ht10 => ?_) (fun ht10 => ?_) | refine T.cond _ rfl (fun ht10 => ?_) (fun ht10 => ?_)
 ·refine T.seq ?_
  refine T.region ?_
  refine TL.assign hF rfl rfl ?_
  refine TL.nil ?_
  refine TQ.then_n ?_
  refine T.ret ?_
  refine TQ.then_r ?_
  refine TQ.rets [4] _ rfl rfl rfl ?_
  exact ⟨by rw [decide_eq_false (fun e => by rw [e] at ht10; exact ht10 rfl)]; rfl, rfl⟩
 ·refine T.skip ?_
  refine TQ.then_n ?_
  refine T.seq ?_
  refine T.seq ?_
  refine T.region ?_
  refine TL.move hF rfl rfl ?_
  refine TL.len hF rfl rfl ?_
  refine TL.move hF rfl rfl ?_
  refine TL.nil ?_
  refine TQ.then_n ?_
  refine T.block ?_
  have hl : xs.length = ys.length := by omega
  refine T.loop (ι := Nat) (fun k => k ≤ xs.length ∧ xs.take k = ys.take k) (fun k => [(0, .slice a xs.length c), (1, .slice b ys.length d), (12, .int .i64 (xs.length : Int)), (13, .int .i64 (k : Int))]) (fun _ => η) (fun k => xs.length - k) 0 ⟨Nat.zero_le _, by simp⟩ ⟨rfl, rfl, rfl, rfl, trivial⟩ rfl ?_
  rintro k ⟨hk, hs⟩
  refine T.seq ?_
  refine T.region ?_
  refine TL.bin hF rfl rfl rfl rfl ?_
  refine TL.nil ?_
  refine TQ.then_n ?_
  refine T.seq ?_
  first | refine T.cond_d rfl (fun ht14 => ?_) (fun ht14 => ?_) | refine T.cond _ rfl (fun ht14 => ?_) (fun ht14 => ?_)
  ·refine T.skip ?_
   refine TQ.then_n ?_
   refine T.seq ?_
   refine T.block ?_
   refine T.seq ?_
   refine T.region ?_
   refine TL.move hF rfl rfl ?_
   refine TL.assign hF rfl rfl ?_
   refine TL.nil ?_
   refine TQ.then_n ?_
   refine T.seq ?_
   refine T.draw ?_
   refine DR.stepV [_] rfl [(0, _, none)] rfl rfl ⟨⟨rfl, by kernel_rfl⟩, trivial⟩ (fun ext => TL.move hF rfl rfl TL.fin) ?_
   refine DR.stepV [_, _] rfl [(5, _, none)] rfl rfl ⟨⟨rfl, by kernel_rfl⟩, trivial⟩ (fun ext => TL.move hF rfl rfl TL.fin) ?_
   refine DR.stepV [_, _, _] rfl [(16, _, some 0), (17, _, some 1)] rfl rfl ⟨⟨rfl, rfl, rfl⟩, ⟨rfl, rfl, rfl⟩, trivial⟩ (fun ext => TL.indexAddr hF rfl rfl (hx.adi (i := k) (by simp; omega)) (by omega) (by omega) rfl TL.fin) ?_
   refine DR.stepV [_, _, _, _] rfl [(18, _, some 2)] rfl rfl ⟨⟨rfl, rfl, rfl⟩, trivial⟩ (fun ext => TL.load hF rfl (hx.int (i := k) (by omega)) rfl TL.fin) ?_
   refine DR.stepV [_, _, _, _, _] rfl [(1, _, none)] rfl rfl ⟨⟨rfl, by kernel_rfl⟩, trivial⟩ (fun ext => TL.move hF rfl rfl TL.fin) ?_
   refine DR.stepV [_, _, _, _, _, _] rfl [(5, _, none)] rfl rfl ⟨⟨rfl, by kernel_rfl⟩, trivial⟩ (fun ext => TL.move hF rfl rfl TL.fin) ?_
   refine DR.stepV [_, _, _, _, _, _, _] rfl [(20, _, some 4), (21, _, some 5)] rfl rfl ⟨⟨rfl, rfl, rfl⟩, ⟨rfl, rfl, rfl⟩, trivial⟩ (fun ext => TL.indexAddr hF rfl rfl (hy.adi (i := k) (by simp; omega)) (by omega) (by omega) rfl TL.fin) ?_
   refine DR.stepV [_, _, _, _, _, _, _, _] rfl [(22, _, some 6)] rfl rfl ⟨⟨rfl, rfl, rfl⟩, trivial⟩ (fun ext => TL.load hF rfl (hy.int (i := k) (by omega)) rfl TL.fin) ?_
   refine DR.done [(23, _), (22, _), (21, _), (20, _), (19, _), (18, _), (17, _), (16, _)] [_] mixed (by kernel_rfl) (by kernel_rfl) (by kernel_rfl) rfl rfl ?_
   refine TL.bin hF rfl rfl rfl rfl ?_
   refine TL.nil ?_
   refine TQ.then_n ?_
   first | refine T.cond_d rfl (fun ht24 => ?_) (fun ht24 => ?_) | refine T.cond _ rfl (fun ht24 => ?_) (fun ht24 => ?_)
   ·refine T.seq ?_
    refine T.region ?_
    refine TL.assign hF rfl rfl ?_
    refine TL.nil ?_
    refine TQ.then_n ?_
    refine T.ret ?_
    refine TQ.block_r ?_
    refine TQ.then_r ?_
    refine TQ.then_r ?_
    refine TQ.block_r ?_
    refine TQ.then_r ?_
    refine TQ.rets [4] _ rfl rfl rfl ?_
    exact ⟨by rw [decide_eq_false (ne_of_getElem (by omega) (by omega) ht24)]; rfl, rfl⟩
   ·refine T.skip ?_
    refine TQ.block_n ?_
    refine TQ.then_n ?_
    refine T.region ?_
    refine TL.add hF rfl rfl (by omega) (by omega) rfl ?_
    refine TL.move hF rfl rfl ?_
    refine TL.nil ?_
    refine TQ.round (k + 1) ⟨by omega, take_succ_eq (by omega) (by omega) hs (Classical.not_not.1 ht24)⟩ (by omega) ⟨rfl, rfl, rfl, rfl, trivial⟩ rfl
  ·refine T.exit ?_
   refine TQ.then_x ?_
   refine TQ.then_x ?_
   refine TQ.block_x ?_
   refine TQ.then_n ?_
   refine T.seq ?_
   refine T.region ?_
   refine TL.assign hF rfl rfl ?_
   refine TL.nil ?_
   refine TQ.then_n ?_
   refine T.ret ?_
   refine TQ.rets [4] _ rfl rfl rfl ?_
   exact ⟨by rw [List.take_of_length_le (by omega), List.take_of_length_le (by omega)] at hs; rw [decide_eq_true hs]; rfl, rfl⟩
set_option maxHeartbeats 2000000 in
theorem isNaN_fn (x : Int) :
  Rt Tryz.prog 149 [.int .i64 x].toArray S w0 η (fun v η' => v = .bool false ∧ η' = η) := by
 have hF := open_wide
 refine Rt.of (fn := Tryz.f149) Tryz.func149 rfl rfl ?_
 refine T.seq ?_
 refine T.region ?_
 refine TL.assign hF rfl rfl ?_
 refine TL.nil ?_
 refine TQ.then_n ?_
 refine T.seq ?_
 refine T.region ?_
 refine TL.move hF rfl rfl ?_
 refine TL.move hF rfl rfl ?_
 refine TL.bin hF rfl rfl rfl rfl ?_
 refine TL.assign hF rfl rfl ?_
 refine TL.nil ?_
 refine TQ.then_n ?_
 refine T.ret ?_
 refine TQ.rets [2] _ rfl rfl rfl ?_
 exact ⟨by simp [retVal], rfl⟩
set_option maxHeartbeats 2000000 in
theorem cmp_fn (x y : Int) :
  Rt Tryz.prog 136 [.int .i64 x, .int .i64 y].toArray S w0 η (fun v η' => v = .int .i64 (if x < y then -1 else if y < x then 1 else 0) ∧ η' = η) := by
 have hF := open_wide
 refine Rt.of (fn := Tryz.f136) Tryz.func136 rfl rfl ?_
 refine T.seq ?_
 refine T.region ?_
 refine TL.assign hF rfl rfl ?_
 refine TL.nil ?_
 refine TQ.then_n ?_
 refine T.seq ?_
 refine T.region ?_
 refine TL.move hF rfl rfl ?_
 refine TL.callV hF (isNaN_fn x) rfl rfl ?_
 refine TL.assign hF rfl rfl ?_
 refine TL.nil ?_
 refine TQ.then_n ?_
 refine T.seq ?_
 refine T.region ?_
 refine TL.move hF rfl rfl ?_
 refine TL.callV hF (isNaN_fn y) rfl rfl ?_
 refine TL.assign hF rfl rfl ?_
 refine TL.nil ?_
 refine TQ.then_n ?_
 refine T.seq ?_
 refine T.seq ?_
 refine T.region ?_
 refine TL.move hF rfl rfl ?_
 refine TL.nil ?_
 refine TQ.then_n ?_
 refine T.cond_f rfl rfl ?_
 refine T.skip ?_
 refine TQ.then_n ?_
 refine T.seq ?_
 refine T.seq ?_
 refine T.region ?_
 refine TL.move hF rfl rfl ?_
 refine TL.nil ?_
 refine TQ.then_n ?_
 refine T.cond_f rfl rfl ?_
 refine T.skip ?_
 refine TQ.then_n ?_
 refine T.seq ?_
 refine T.seq ?_
 refine T.region ?_
 refine TL.move hF rfl rfl ?_
 refine TL.move hF rfl rfl ?_
 refine TL.bin hF rfl rfl rfl rfl ?_
 refine TL.nil ?_
 refine TQ.then_n ?_
 first | refine T.cond_d rfl (fun ht16 => ?_) (fun ht16 => ?_) | refine T.cond _ rfl (fun ht16 => ?_) (fun ht16 => ?_)
 ·refine T.seq ?_
  refine T.region ?_
  refine TL.assign hF rfl rfl ?_
  refine TL.nil ?_
  refine TQ.then_n ?_
  refine T.ret ?_
  refine TQ.then_r ?_
  refine TQ.rets [4] _ rfl rfl rfl ?_
  exact ⟨by rw [if_pos ht16]; rfl, rfl⟩
 ·refine T.skip ?_
  refine TQ.then_n ?_
  refine T.seq ?_
  refine T.seq ?_
  refine T.region ?_
  refine TL.move hF rfl rfl ?_
  refine TL.move hF rfl rfl ?_
  refine TL.bin hF rfl rfl rfl rfl ?_
  refine TL.nil ?_
  refine TQ.then_n ?_
  first | refine T.cond_d rfl (fun ht19 => ?_) (fun ht19 => ?_) | refine T.cond _ rfl (fun ht19 => ?_) (fun ht19 => ?_)
  ·refine T.seq ?_
   refine T.region ?_
   refine TL.assign hF rfl rfl ?_
   refine TL.nil ?_
   refine TQ.then_n ?_
   refine T.ret ?_
   refine TQ.then_r ?_
   refine TQ.rets [4] _ rfl rfl rfl ?_
   exact ⟨by rw [if_neg ht16, if_pos ht19]; rfl, rfl⟩
  ·refine T.skip ?_
   refine TQ.then_n ?_
   refine T.seq ?_
   refine T.region ?_
   refine TL.assign hF rfl rfl ?_
   refine TL.nil ?_
   refine TQ.then_n ?_
   refine T.ret ?_
   refine TQ.rets [4] _ rfl rfl rfl ?_
   exact ⟨by rw [if_neg ht16, if_neg ht19]; rfl, rfl⟩
/-- What slices.Compare says of two lists. -/
def cmpT : Tm → Tm → Int
 | x :: a, y :: b => if x < y then -1 else if y < x then 1 else cmpT a b
 | [], _ :: _ => -1
 | _ :: _, [] => 1
 | [], [] => 0
theorem cmpT_lt : ∀ {a b : Tm}, a.length = b.length → (cmpT a b < 0 ↔ lxl a b = true)
 | [], [], _ => by simp [cmpT, lxl]
 | x :: a, y :: b, h => by
  unfold cmpT lxl
  by_cases h1 : x < y
  ·rw [if_pos h1, if_neg (by omega)]; simp [h1]
  ·rw [if_neg h1]
   by_cases h2 : y < x
   ·rw [if_pos h2, if_neg (by omega)]; simp; omega
   ·rw [if_neg h2, if_pos (by omega)]; exact cmpT_lt (by simpa using h)
 | [], _ :: _, h => by simp at h
 | _ :: _, [], h => by simp at h
set_option maxHeartbeats 2000000 in
theorem Compare_fn {a b : Option Addr} {xs ys : List Int} {c d : Nat} (hx : Row S w0 η a (ints xs)) (hy : Row S w0 η b (ints ys)) (hb : xs.length < 2 ^ 63) :
  Rt Tryz.prog 119 [.slice a xs.length c, .slice b ys.length d].toArray S w0 η (fun v η' => v = .int .i64 (cmpT xs ys) ∧ η' = η) := by
 have hF := open_wide
 refine Rt.of (fn := Tryz.f119) Tryz.func119 rfl rfl ?_
 refine T.seq ?_
 refine T.region ?_
 refine TL.assign hF rfl rfl ?_
 refine TL.nil ?_
 refine TQ.then_n ?_
 refine T.seq ?_
 refine T.seq ?_
 refine T.region ?_
 refine TL.move hF rfl rfl ?_
 refine TL.len hF rfl rfl ?_
 refine TL.move hF rfl rfl ?_
 refine TL.nil ?_
 refine TQ.then_n ?_
 refine T.block ?_
 refine T.loop (ι := Nat) (fun k => k ≤ xs.length ∧ k ≤ ys.length ∧ cmpT xs ys = cmpT (xs.drop k) (ys.drop k)) (fun k => [(0, .slice a xs.length c), (1, .slice b ys.length d), (9, .slice a xs.length c), (10, .int .i64 (xs.length : Int)), (11, .int .i64 (k : Int))]) (fun _ => η) (fun k => xs.length - k) 0 ⟨Nat.zero_le _, Nat.zero_le _, by simp⟩ ⟨rfl, rfl, rfl, rfl, rfl, trivial⟩ rfl ?_
 rintro k ⟨hk, hk2, hs⟩
 refine T.seq ?_
 refine T.region ?_
 refine TL.bin hF rfl rfl rfl rfl ?_
 refine TL.nil ?_
 refine TQ.then_n ?_
 refine T.seq ?_
 first | refine T.cond_d rfl (fun ht12 => ?_) (fun ht12 => ?_) | refine T.cond _ rfl (fun ht12 => ?_) (fun ht12 => ?_)
 ·refine T.skip ?_
  refine TQ.then_n ?_
  refine T.seq ?_
  refine T.block ?_
  refine T.seq ?_
  refine T.region ?_
  refine TL.move hF rfl rfl ?_
  refine TL.indexAddr hF rfl rfl (hx.adi (i := k) (by simp; omega)) (by omega) (by omega) rfl ?_
  refine TL.load hF rfl (hx.int (i := k) (by omega)) rfl ?_
  refine TL.assign hF rfl rfl ?_
  refine TL.assign hF rfl rfl ?_
  refine TL.nil ?_
  refine TQ.then_n ?_
  refine T.seq ?_
  refine T.seq ?_
  refine T.region ?_
  refine TL.move hF rfl rfl ?_
  refine TL.move hF rfl rfl ?_
  refine TL.len hF rfl rfl ?_
  refine TL.bin hF rfl rfl rfl rfl ?_
  refine TL.nil ?_
  refine TQ.then_n ?_
  first | refine T.cond_d rfl (fun ht19 => ?_) (fun ht19 => ?_) | refine T.cond _ rfl (fun ht19 => ?_) (fun ht19 => ?_)
  ·refine T.seq ?_
   refine T.region ?_
   refine TL.assign hF rfl rfl ?_
   refine TL.nil ?_
   refine TQ.then_n ?_
   refine T.ret ?_
   refine TQ.then_r ?_
   refine TQ.block_r ?_
   refine TQ.then_r ?_
   refine TQ.then_r ?_
   refine TQ.block_r ?_
   refine TQ.then_r ?_
   refine TQ.rets [4] _ rfl rfl rfl ?_
   exact ⟨by rw [hs, drop_step (l := xs) (by omega), List.drop_of_length_le (l := ys) (by omega)]; rfl, rfl⟩
  ·refine T.skip ?_
   refine TQ.then_n ?_
   refine T.seq ?_
   refine T.region ?_
   refine TL.move hF rfl rfl ?_
   refine TL.move hF rfl rfl ?_
   refine TL.indexAddr hF rfl rfl (hy.adi (i := k) (by simp; omega)) (by omega) (by omega) rfl ?_
   refine TL.load hF rfl (hy.int (i := k) (by omega)) rfl ?_
   refine TL.assign hF rfl rfl ?_
   refine TL.nil ?_
   refine TQ.then_n ?_
   refine T.seq ?_
   refine T.region ?_
   refine TL.move hF rfl rfl ?_
   refine TL.move hF rfl rfl ?_
   refine TL.callV hF (cmp_fn _ _) rfl rfl ?_
   refine TL.assign hF rfl rfl ?_
   refine TL.nil ?_
   refine TQ.then_n ?_
   refine T.seq ?_
   refine T.region ?_
   have hx1 : k < xs.length := by omega
   have hy1 : k < ys.length := by omega
   rw [drop_step hx1, drop_step hy1, cmpT] at hs
   refine TL.move hF rfl rfl ?_
   refine TL.bin hF rfl rfl rfl rfl ?_
   refine TL.nil ?_
   refine TQ.then_n ?_
   first | refine T.cond_d rfl (fun ht28 => ?_) (fun ht28 => ?_) | refine T.cond _ rfl (fun ht28 => ?_) (fun ht28 => ?_)
   ·refine T.seq ?_
    refine T.region ?_
    refine TL.move hF rfl rfl ?_
    refine TL.assign hF rfl rfl ?_
    refine TL.nil ?_
    refine TQ.then_n ?_
    refine T.ret ?_
    refine TQ.block_r ?_
    refine TQ.then_r ?_
    refine TQ.then_r ?_
    refine TQ.block_r ?_
    refine TQ.then_r ?_
    refine TQ.rets [4] _ rfl rfl rfl ?_
    refine ⟨?_, rfl⟩
    rw [hs]
    split
    ·rfl
    ·rename_i h3
     rw [if_neg h3] at ht28
     split
     ·rfl
     ·rename_i h4
      rw [if_neg h4] at ht28; exact absurd rfl ht28
   ·refine T.skip ?_
    refine TQ.block_n ?_
    refine TQ.then_n ?_
    refine T.region ?_
    refine TL.add hF rfl rfl (by omega) (by omega) rfl ?_
    refine TL.move hF rfl rfl ?_
    refine TL.nil ?_
    refine TQ.round (k + 1) ⟨by omega, by omega, ?_⟩ (by omega) ⟨rfl, rfl, rfl, rfl, rfl, trivial⟩ rfl
    rw [hs]
    have h3 := Classical.not_not.1 ht28
    split at h3
    ·omega
    ·rw [if_neg (by assumption)]
     split at h3
     ·omega
     ·rw [if_neg (by assumption)]
 ·refine T.exit ?_
  refine TQ.then_x ?_
  refine TQ.then_x ?_
  refine TQ.block_x ?_
  refine TQ.then_n ?_
  refine T.seq ?_
  refine T.seq ?_
  refine T.region ?_
  refine TL.move hF rfl rfl ?_
  refine TL.len hF rfl rfl ?_
  refine TL.move hF rfl rfl ?_
  refine TL.len hF rfl rfl ?_
  refine TL.bin hF rfl rfl rfl rfl ?_
  refine TL.nil ?_
  refine TQ.then_n ?_
  first | refine T.cond_d rfl (fun ht35 => ?_) (fun ht35 => ?_) | refine T.cond _ rfl (fun ht35 => ?_) (fun ht35 => ?_)
  ·refine T.seq ?_
   refine T.region ?_
   refine TL.assign hF rfl rfl ?_
   refine TL.nil ?_
   refine TQ.then_n ?_
   refine T.ret ?_
   refine TQ.then_r ?_
   refine TQ.rets [4] _ rfl rfl rfl ?_
   exact ⟨by rw [hs, List.drop_of_length_le (l := xs) (by omega), drop_step (l := ys) (by omega)]; rfl, rfl⟩
  ·refine T.skip ?_
   refine TQ.then_n ?_
   refine T.seq ?_
   refine T.region ?_
   refine TL.assign hF rfl rfl ?_
   refine TL.nil ?_
   refine TQ.then_n ?_
   refine T.ret ?_
   refine TQ.rets [4] _ rfl rfl rfl ?_
   exact ⟨by rw [hs, List.drop_of_length_le (l := xs) (by omega), List.drop_of_length_le (l := ys) (by omega)]; rfl, rfl⟩
end Go.Proofs.YteimjjpigohnhaaGreat
/- Copies; meet and join; keys; lists behind each other; what is refused. -/
namespace Go.Proofs.YteimjjpigohnhaaGreat
open Go.Sl
variable {S : Nat → Prop} {w0 : World} {η : Heap}
set_option maxHeartbeats 2000000 in
theorem CloneI_fn {a : Option Addr} {cs : List Value} {n c : Nat} (hx : Row S w0 η a cs) (hn : cs.length = n) (h1 : ∀ u ∈ cs, u.oneCell' = true) (hl : n < 1099511627776) :
  Rt Tryz.prog 116 [.slice a n c].toArray S w0 η (fun v η' => ∃ a' cap seg, v = .slice a' n cap ∧ OSl 3 1 (.slice a' n cap) n cs seg ∧ η' = seg :: η) := by
 have hF := open_wide
 refine Rt.of (fn := Tryz.f116) Tryz.func116 rfl rfl ?_
 refine T.seq ?_
 refine T.region ?_
 refine TL.assign hF rfl rfl ?_
 refine TL.nil ?_
 refine TQ.then_n ?_
 refine T.seq ?_
 refine T.seq ?_
 refine T.region ?_
 refine TL.move hF rfl rfl ?_
 refine TL.nilSl hF rfl rfl rfl ?_
 refine TL.nil ?_
 refine TQ.then_n ?_
 refine T.cond _ rfl (fun ht4 => ?_) (fun ht4 => ?_)
 ·refine T.seq ?_
  refine T.region ?_
  refine TL.assign hF rfl rfl ?_
  refine TL.nil ?_
  refine TQ.then_n ?_
  refine T.ret ?_
  refine TQ.then_r ?_
  have ha : a = none := Option.isNone_iff_eq_none.1 ht4
  have hcs : cs = [] := by
   cases cs with
   | nil => rfl
   | cons x r => obtain ⟨_, e, _⟩ := hx.ad (by simp); rw [ha] at e; cases e
  subst hcs
  subst hn
  refine TQ.hnil ?_
  refine TQ.rets [2] _ rfl rfl rfl ?_
  exact ⟨none, 0, [], rfl, OSl.nil _ _, rfl⟩
 ·refine T.skip ?_
  refine TQ.then_n ?_
  refine T.seq ?_
  refine T.region ?_
  refine TL.buildSlice hF rfl (cs := #[]) (e := 3) (fun w => by kernel_rfl) rfl (fun b5 => ?_)
  refine TL.move hF rfl rfl ?_
  refine TL.append hF 0 rfl rfl rfl osl_empty (hx.up upc).src rfl (by simp [hn, Value.cells]) h1 (by omega) (by omega) rfl (fun a' cap' seg' ho' => ?_)
  rw [Nat.zero_add, List.nil_append] at ho'
  rw [Nat.zero_add]
  refine TL.assign hF rfl rfl ?_
  refine TL.nil ?_
  refine TQ.then_n ?_
  refine T.ret ?_
  refine TQ.rets [2] _ rfl rfl rfl ?_
  exact ⟨_, _, _, rfl, ho', rfl⟩
set_option maxHeartbeats 2000000 in
theorem CloneT_fn {a : Option Addr} {cs : List Value} {n c : Nat} (hx : Row S w0 η a cs) (hn : cs.length = n) (h1 : ∀ u ∈ cs, u.oneCell' = true) (hl : n < 1099511627776) :
  Rt Tryz.prog 120 [.slice a n c].toArray S w0 η (fun v η' => ∃ a' cap seg, v = .slice a' n cap ∧ OSl 3 1 (.slice a' n cap) n cs seg ∧ η' = seg :: η) := by
 have hF := open_wide
 refine Rt.of (fn := Tryz.f120) Tryz.func120 rfl rfl ?_
 refine T.seq ?_
 refine T.region ?_
 refine TL.assign hF rfl rfl ?_
 refine TL.nil ?_
 refine TQ.then_n ?_
 refine T.seq ?_
 refine T.seq ?_
 refine T.region ?_
 refine TL.move hF rfl rfl ?_
 refine TL.nilSl hF rfl rfl rfl ?_
 refine TL.nil ?_
 refine TQ.then_n ?_
 refine T.cond _ rfl (fun ht4 => ?_) (fun ht4 => ?_)
 ·refine T.seq ?_
  refine T.region ?_
  refine TL.assign hF rfl rfl ?_
  refine TL.nil ?_
  refine TQ.then_n ?_
  refine T.ret ?_
  refine TQ.then_r ?_
  have ha : a = none := Option.isNone_iff_eq_none.1 ht4
  have hcs : cs = [] := by
   cases cs with
   | nil => rfl
   | cons x r => obtain ⟨_, e, _⟩ := hx.ad (by simp); rw [ha] at e; cases e
  subst hcs
  subst hn
  refine TQ.hnil ?_
  refine TQ.rets [2] _ rfl rfl rfl ?_
  exact ⟨none, 0, [], rfl, OSl.nil _ _, rfl⟩
 ·refine T.skip ?_
  refine TQ.then_n ?_
  refine T.seq ?_
  refine T.region ?_
  refine TL.buildSlice hF rfl (cs := #[]) (e := 3) (fun w => by kernel_rfl) rfl (fun b5 => ?_)
  refine TL.move hF rfl rfl ?_
  refine TL.append hF 0 rfl rfl rfl osl_empty (hx.up upc).src rfl (by simp [hn, Value.cells]) h1 (by omega) (by omega) rfl (fun a' cap' seg' ho' => ?_)
  rw [Nat.zero_add, List.nil_append] at ho'
  rw [Nat.zero_add]
  refine TL.assign hF rfl rfl ?_
  refine TL.nil ?_
  refine TQ.then_n ?_
  refine T.ret ?_
  refine TQ.rets [2] _ rfl rfl rfl ?_
  exact ⟨_, _, _, rfl, ho', rfl⟩
set_option maxHeartbeats 2000000 in
theorem CloneG_fn {a : Option Addr} {cs : List Value} {n c : Nat} (hx : Row S w0 η a cs) (hn : cs.length = n) (h1 : ∀ u ∈ cs, u.oneCell' = true) (hl : n < 1099511627776) :
  Rt Tryz.prog 114 [.slice a n c].toArray S w0 η (fun v η' => ∃ a' cap seg, v = .slice a' n cap ∧ OSl 32 1 (.slice a' n cap) n cs seg ∧ η' = seg :: η) := by
 have hF := open_wide
 refine Rt.of (fn := Tryz.f114) Tryz.func114 rfl rfl ?_
 refine T.seq ?_
 refine T.region ?_
 refine TL.assign hF rfl rfl ?_
 refine TL.nil ?_
 refine TQ.then_n ?_
 refine T.seq ?_
 refine T.seq ?_
 refine T.region ?_
 refine TL.move hF rfl rfl ?_
 refine TL.nilSl hF rfl rfl rfl ?_
 refine TL.nil ?_
 refine TQ.then_n ?_
 refine T.cond _ rfl (fun ht4 => ?_) (fun ht4 => ?_)
 ·refine T.seq ?_
  refine T.region ?_
  refine TL.assign hF rfl rfl ?_
  refine TL.nil ?_
  refine TQ.then_n ?_
  refine T.ret ?_
  refine TQ.then_r ?_
  have ha : a = none := Option.isNone_iff_eq_none.1 ht4
  have hcs : cs = [] := by
   cases cs with
   | nil => rfl
   | cons x r => obtain ⟨_, e, _⟩ := hx.ad (by simp); rw [ha] at e; cases e
  subst hcs
  subst hn
  refine TQ.hnil ?_
  refine TQ.rets [2] _ rfl rfl rfl ?_
  exact ⟨none, 0, [], rfl, OSl.nil _ _, rfl⟩
 ·refine T.skip ?_
  refine TQ.then_n ?_
  refine T.seq ?_
  refine T.region ?_
  refine TL.buildSlice hF rfl (cs := #[]) (e := 32) (fun w => by kernel_rfl) rfl (fun b5 => ?_)
  refine TL.move hF rfl rfl ?_
  refine TL.append hF 0 rfl rfl rfl osl_empty (hx.up upc).src rfl (by simp [hn, Value.cells]) h1 (by omega) (by omega) rfl (fun a' cap' seg' ho' => ?_)
  rw [Nat.zero_add, List.nil_append] at ho'
  rw [Nat.zero_add]
  refine TL.assign hF rfl rfl ?_
  refine TL.nil ?_
  refine TQ.then_n ?_
  refine T.ret ?_
  refine TQ.rets [2] _ rfl rfl rfl ?_
  exact ⟨_, _, _, rfl, ho', rfl⟩
set_option maxHeartbeats 2000000 in
theorem meet1_fn (x y : Int) :
  Rt Tryz.prog 111 [.int .i64 x, .int .i64 y].toArray S w0 η (fun v η' => v = .int .i64 (min x y) ∧ η' = η) := by
 have hF := open_wide
 refine Rt.of (fn := Tryz.f111) Tryz.func111 rfl rfl ?_
 refine T.seq ?_
 refine T.region ?_
 refine TL.assign hF rfl rfl ?_
 refine TL.nil ?_
 refine TQ.then_n ?_
 refine T.seq ?_
 refine T.region ?_
 refine TL.move hF rfl rfl ?_
 refine TL.move hF rfl rfl ?_
 refine TL.min2 hF rfl rfl rfl ?_
 refine TL.assign hF rfl rfl ?_
 refine TL.nil ?_
 refine TQ.then_n ?_
 refine T.ret ?_
 refine TQ.rets [4] _ rfl rfl rfl ?_
 exact ⟨rfl, rfl⟩
def meetK (a b : List Int) (k i : Nat) : Int := if i < k then min (a.getD i 0) (b.getD i 0) else a.getD i 0
theorem meetK_end {a b : List Int} (h : a.length = b.length) : intC a.length (meetK a b b.length) = ints (tmeet a b) := by
 rw [ints_intC, tmeet_len h]
 apply intC_congr
 intro i hi
 unfold meetK tmeet
 rw [if_pos (by omega)]
 simp [List.getD_eq_getElem?_getD, List.getElem?_zipWith, hi, show i < b.length by omega]
set_option maxHeartbeats 2000000 in
theorem mixed_meet {a b : Option Addr} {xs ys : List Int} {c d : Nat} (hx : Row S w0 η a (ints xs)) (hy : Row S w0 η b (ints ys)) (hl : xs.length = ys.length) (hb : xs.length < 1099511627776) :
  Rt Tryz.prog 110 [.slice a xs.length c, .slice b ys.length d, .func (.func 111) #[] #[]].toArray S w0 η (fun v η' => ∃ g, v = .slice (some ⟨g, 0, none⟩) xs.length xs.length ∧ η' = [(g, .cells (ints (tmeet xs ys)).toArray 3 (0, 0))] :: η) := by
 have hF := open_wide
 refine Rt.of (fn := Tryz.f110) Tryz.func110 rfl rfl ?_
 refine T.seq ?_
 refine T.region ?_
 refine TL.assign hF rfl rfl ?_
 refine TL.nil ?_
 refine TQ.then_n ?_
 refine T.seq ?_
 refine T.region ?_
 refine TL.move hF rfl rfl ?_
 refine TL.len hF rfl rfl ?_
 refine TL.makeSlice hF rfl rfl rfl (by omega) (by omega) rfl (fun b12 => ?_)
 refine TL.assign hF rfl rfl ?_
 refine TL.nil ?_
 refine TQ.then_n ?_
 refine T.seq ?_
 refine T.region ?_
 refine TL.move hF rfl rfl ?_
 refine TL.move hF rfl rfl ?_
 refine TL.copy hF 0 (cs := List.replicate xs.length (.int .i64 0)) (e' := 3) (k := xs.length) (ints xs) (ints xs) rfl rfl rfl (by simp) (hx.up upc) (by simp) (ints1 _) (by simp) (by simp) rfl ?_
 rw [ints_intC xs]
 refine TL.nil ?_
 refine TQ.then_n ?_
 refine T.seq ?_
 refine T.seq ?_
 refine T.region ?_
 refine TL.move hF rfl rfl ?_
 refine TL.len hF rfl rfl ?_
 refine TL.move hF rfl rfl ?_
 refine TL.nil ?_
 refine TQ.then_n ?_
 refine T.block ?_
 refine T.loop (ι := Nat) (fun k => k ≤ ys.length) (fun k => [(2, .func (.func 111) #[] #[]), (7, .slice (some ⟨b12, 0, none⟩) xs.length xs.length), (16, .slice b ys.length d), (17, .int .i64 (ys.length : Int)), (18, .int .i64 (k : Int))]) (fun k => iseg b12 xs.length (meetK xs ys k) :: η) (fun k => ys.length - k) 0 (Nat.zero_le _) ⟨rfl, rfl, rfl, rfl, rfl, trivial⟩ (iseg_congr fun i _ => by simp [meetK]) ?_
 intro k hk
 refine T.seq ?_
 refine T.region ?_
 refine TL.bin hF rfl rfl rfl rfl ?_
 refine TL.nil ?_
 refine TQ.then_n ?_
 refine T.seq ?_
 first | refine T.cond_d rfl (fun ht19 => ?_) (fun ht19 => ?_) | refine T.cond _ rfl (fun ht19 => ?_) (fun ht19 => ?_)
 ·refine T.skip ?_
  refine TQ.then_n ?_
  refine T.seq ?_
  refine T.block ?_
  refine T.seq ?_
  refine T.region ?_
  refine TL.move hF rfl rfl ?_
  refine TL.indexAddr hF rfl rfl (hy.adi (i := k) (by simp; omega)) (by omega) (by omega) rfl ?_
  refine TL.load hF rfl ((hy.up upc).int (i := k) (by omega)) rfl ?_
  refine TL.assign hF rfl rfl ?_
  refine TL.assign hF rfl rfl ?_
  refine TL.nil ?_
  refine TQ.then_n ?_
  refine T.region ?_
  refine TL.move hF rfl rfl ?_
  refine TL.move hF rfl rfl ?_
  refine TL.move hF rfl rfl ?_
  refine TL.move hF rfl rfl ?_
  refine TL.move hF rfl rfl ?_
  refine TL.indexAddr hF rfl rfl ⟨_, rfl, rfl⟩ (by omega) (by omega) rfl ?_
  refine TL.load hF rfl (iseg_at (f := meetK xs ys k) (n := xs.length) (b := b12) (j := k) (by simp) (by omega)) rfl ?_
  refine TL.move hF rfl rfl ?_
  refine TL.callV hF (meet1_fn _ _) rfl rfl ?_
  refine TL.indexAddr hF rfl rfl ⟨_, rfl, rfl⟩ (by omega) (by omega) rfl ?_
  refine TL.storeI hF 0 rfl rfl rfl rfl (by simp [intC_len]; omega) ?_
  refine TL.nil ?_
  refine TQ.block_n ?_
  refine TQ.then_n ?_
  refine T.region ?_
  refine TL.add hF rfl rfl (by omega) (by omega) rfl ?_
  refine TL.move hF rfl rfl ?_
  refine TL.nil ?_
  refine TQ.round (k + 1) (by omega) (by omega) ⟨rfl, rfl, rfl, rfl, rfl, trivial⟩ (iseg_set (j := k) (by simp) (fun i hi => ?_))
  unfold meetK
  by_cases h : i = k
  ·subst h; rw [if_pos (by omega), if_pos rfl, if_neg (by omega)]; simp [List.getD_eq_getElem?_getD, show i < ys.length by omega]
  ·rw [if_neg h]
   by_cases h2 : i < k
   ·rw [if_pos (by omega), if_pos h2]
   ·rw [if_neg (by omega), if_neg h2]
 ·refine T.exit ?_
  refine TQ.then_x ?_
  refine TQ.then_x ?_
  refine TQ.block_x ?_
  refine TQ.then_n ?_
  refine T.seq ?_
  refine T.region ?_
  refine TL.move hF rfl rfl ?_
  refine TL.assign hF rfl rfl ?_
  refine TL.nil ?_
  refine TQ.then_n ?_
  refine T.ret ?_
  refine TQ.rets [6] _ rfl rfl rfl ?_
  exact ⟨b12, rfl, by rw [show k = ys.length by omega, iseg, meetK_end hl]⟩
set_option maxHeartbeats 2000000 in
theorem meet_fn {a b : Option Addr} {xs ys : List Int} {c d : Nat} (hx : Row S w0 η a (ints xs)) (hy : Row S w0 η b (ints ys)) (hl : xs.length = ys.length) (hb : xs.length < 1099511627776) :
  Rt Tryz.prog 70 [.slice a xs.length c, .slice b ys.length d].toArray S w0 η (fun v η' => ∃ g, v = .slice (some ⟨g, 0, none⟩) xs.length xs.length ∧ η' = [(g, .cells (ints (tmeet xs ys)).toArray 3 (0, 0))] :: η) := by
 have hF := open_wide
 refine Rt.of (fn := Tryz.f70) Tryz.func70 rfl rfl ?_
 refine T.seq ?_
 refine T.region ?_
 refine TL.assign hF rfl rfl ?_
 refine TL.nil ?_
 refine TQ.then_n ?_
 refine T.seq ?_
 refine T.region ?_
 refine TL.move hF rfl rfl ?_
 refine TL.move hF rfl rfl ?_
 refine TL.call hF (mixed_meet hx hy hl hb) rfl rfl ?_
 rintro _ _ ⟨g, rfl, rfl⟩
 refine TL.assign hF rfl rfl ?_
 refine TL.nil ?_
 refine TQ.then_n ?_
 refine T.ret ?_
 refine TQ.rets [4] _ rfl rfl rfl ?_
 exact ⟨g, rfl, rfl⟩
set_option maxHeartbeats 2000000 in
theorem join1_fn (x y : Int) :
  Rt Tryz.prog 112 [.int .i64 x, .int .i64 y].toArray S w0 η (fun v η' => v = .int .i64 (max x y) ∧ η' = η) := by
 have hF := open_wide
 refine Rt.of (fn := Tryz.f112) Tryz.func112 rfl rfl ?_
 refine T.seq ?_
 refine T.region ?_
 refine TL.assign hF rfl rfl ?_
 refine TL.nil ?_
 refine TQ.then_n ?_
 refine T.seq ?_
 refine T.region ?_
 refine TL.move hF rfl rfl ?_
 refine TL.move hF rfl rfl ?_
 refine TL.max2 hF rfl rfl rfl ?_
 refine TL.assign hF rfl rfl ?_
 refine TL.nil ?_
 refine TQ.then_n ?_
 refine T.ret ?_
 refine TQ.rets [4] _ rfl rfl rfl ?_
 exact ⟨rfl, rfl⟩
def joinK (a b : List Int) (k i : Nat) : Int := if i < k then max (a.getD i 0) (b.getD i 0) else a.getD i 0
theorem joinK_end {a b : List Int} (h : a.length = b.length) : intC a.length (joinK a b b.length) = ints (tjoin a b) := by
 rw [ints_intC, tjoin_len h]
 apply intC_congr
 intro i hi
 unfold joinK tjoin
 rw [if_pos (by omega)]
 simp [List.getD_eq_getElem?_getD, List.getElem?_zipWith, hi, show i < b.length by omega]
set_option maxHeartbeats 2000000 in
theorem mixed_join {a b : Option Addr} {xs ys : List Int} {c d : Nat} (hx : Row S w0 η a (ints xs)) (hy : Row S w0 η b (ints ys)) (hl : xs.length = ys.length) (hb : xs.length < 1099511627776) :
  Rt Tryz.prog 110 [.slice a xs.length c, .slice b ys.length d, .func (.func 112) #[] #[]].toArray S w0 η (fun v η' => ∃ g, v = .slice (some ⟨g, 0, none⟩) xs.length xs.length ∧ η' = [(g, .cells (ints (tjoin xs ys)).toArray 3 (0, 0))] :: η) := by
 have hF := open_wide
 refine Rt.of (fn := Tryz.f110) Tryz.func110 rfl rfl ?_
 refine T.seq ?_
 refine T.region ?_
 refine TL.assign hF rfl rfl ?_
 refine TL.nil ?_
 refine TQ.then_n ?_
 refine T.seq ?_
 refine T.region ?_
 refine TL.move hF rfl rfl ?_
 refine TL.len hF rfl rfl ?_
 refine TL.makeSlice hF rfl rfl rfl (by omega) (by omega) rfl (fun b12 => ?_)
 refine TL.assign hF rfl rfl ?_
 refine TL.nil ?_
 refine TQ.then_n ?_
 refine T.seq ?_
 refine T.region ?_
 refine TL.move hF rfl rfl ?_
 refine TL.move hF rfl rfl ?_
 refine TL.copy hF 0 (cs := List.replicate xs.length (.int .i64 0)) (e' := 3) (k := xs.length) (ints xs) (ints xs) rfl rfl rfl (by simp) (hx.up upc) (by simp) (ints1 _) (by simp) (by simp) rfl ?_
 rw [ints_intC xs]
 refine TL.nil ?_
 refine TQ.then_n ?_
 refine T.seq ?_
 refine T.seq ?_
 refine T.region ?_
 refine TL.move hF rfl rfl ?_
 refine TL.len hF rfl rfl ?_
 refine TL.move hF rfl rfl ?_
 refine TL.nil ?_
 refine TQ.then_n ?_
 refine T.block ?_
 refine T.loop (ι := Nat) (fun k => k ≤ ys.length) (fun k => [(2, .func (.func 112) #[] #[]), (7, .slice (some ⟨b12, 0, none⟩) xs.length xs.length), (16, .slice b ys.length d), (17, .int .i64 (ys.length : Int)), (18, .int .i64 (k : Int))]) (fun k => iseg b12 xs.length (joinK xs ys k) :: η) (fun k => ys.length - k) 0 (Nat.zero_le _) ⟨rfl, rfl, rfl, rfl, rfl, trivial⟩ (iseg_congr fun i _ => by simp [joinK]) ?_
 intro k hk
 refine T.seq ?_
 refine T.region ?_
 refine TL.bin hF rfl rfl rfl rfl ?_
 refine TL.nil ?_
 refine TQ.then_n ?_
 refine T.seq ?_
 first | refine T.cond_d rfl (fun ht19 => ?_) (fun ht19 => ?_) | refine T.cond _ rfl (fun ht19 => ?_) (fun ht19 => ?_)
 ·refine T.skip ?_
  refine TQ.then_n ?_
  refine T.seq ?_
  refine T.block ?_
  refine T.seq ?_
  refine T.region ?_
  refine TL.move hF rfl rfl ?_
  refine TL.indexAddr hF rfl rfl (hy.adi (i := k) (by simp; omega)) (by omega) (by omega) rfl ?_
  refine TL.load hF rfl ((hy.up upc).int (i := k) (by omega)) rfl ?_
  refine TL.assign hF rfl rfl ?_
  refine TL.assign hF rfl rfl ?_
  refine TL.nil ?_
  refine TQ.then_n ?_
  refine T.region ?_
  refine TL.move hF rfl rfl ?_
  refine TL.move hF rfl rfl ?_
  refine TL.move hF rfl rfl ?_
  refine TL.move hF rfl rfl ?_
  refine TL.move hF rfl rfl ?_
  refine TL.indexAddr hF rfl rfl ⟨_, rfl, rfl⟩ (by omega) (by omega) rfl ?_
  refine TL.load hF rfl (iseg_at (f := joinK xs ys k) (n := xs.length) (b := b12) (j := k) (by simp) (by omega)) rfl ?_
  refine TL.move hF rfl rfl ?_
  refine TL.callV hF (join1_fn _ _) rfl rfl ?_
  refine TL.indexAddr hF rfl rfl ⟨_, rfl, rfl⟩ (by omega) (by omega) rfl ?_
  refine TL.storeI hF 0 rfl rfl rfl rfl (by simp [intC_len]; omega) ?_
  refine TL.nil ?_
  refine TQ.block_n ?_
  refine TQ.then_n ?_
  refine T.region ?_
  refine TL.add hF rfl rfl (by omega) (by omega) rfl ?_
  refine TL.move hF rfl rfl ?_
  refine TL.nil ?_
  refine TQ.round (k + 1) (by omega) (by omega) ⟨rfl, rfl, rfl, rfl, rfl, trivial⟩ (iseg_set (j := k) (by simp) (fun i hi => ?_))
  unfold joinK
  by_cases h : i = k
  ·subst h; rw [if_pos (by omega), if_pos rfl, if_neg (by omega)]; simp [List.getD_eq_getElem?_getD, show i < ys.length by omega]
  ·rw [if_neg h]
   by_cases h2 : i < k
   ·rw [if_pos (by omega), if_pos h2]
   ·rw [if_neg (by omega), if_neg h2]
 ·refine T.exit ?_
  refine TQ.then_x ?_
  refine TQ.then_x ?_
  refine TQ.block_x ?_
  refine TQ.then_n ?_
  refine T.seq ?_
  refine T.region ?_
  refine TL.move hF rfl rfl ?_
  refine TL.assign hF rfl rfl ?_
  refine TL.nil ?_
  refine TQ.then_n ?_
  refine T.ret ?_
  refine TQ.rets [6] _ rfl rfl rfl ?_
  exact ⟨b12, rfl, by rw [show k = ys.length by omega, iseg, joinK_end hl]⟩
set_option maxHeartbeats 2000000 in
theorem join_fn {a b : Option Addr} {xs ys : List Int} {c d : Nat} (hx : Row S w0 η a (ints xs)) (hy : Row S w0 η b (ints ys)) (hl : xs.length = ys.length) (hb : xs.length < 1099511627776) :
  Rt Tryz.prog 72 [.slice a xs.length c, .slice b ys.length d].toArray S w0 η (fun v η' => ∃ g, v = .slice (some ⟨g, 0, none⟩) xs.length xs.length ∧ η' = [(g, .cells (ints (tjoin xs ys)).toArray 3 (0, 0))] :: η) := by
 have hF := open_wide
 refine Rt.of (fn := Tryz.f72) Tryz.func72 rfl rfl ?_
 refine T.seq ?_
 refine T.region ?_
 refine TL.assign hF rfl rfl ?_
 refine TL.nil ?_
 refine TQ.then_n ?_
 refine T.seq ?_
 refine T.region ?_
 refine TL.move hF rfl rfl ?_
 refine TL.move hF rfl rfl ?_
 refine TL.call hF (mixed_join hx hy hl hb) rfl rfl ?_
 rintro _ _ ⟨g, rfl, rfl⟩
 refine TL.assign hF rfl rfl ?_
 refine TL.nil ?_
 refine TQ.then_n ?_
 refine T.ret ?_
 refine TQ.rets [4] _ rfl rfl rfl ?_
 exact ⟨g, rfl, rfl⟩
theorem key_cells {xs : List Int} (h : xs.length ≤ 4) : ([Value.int .i64 0, .int .i64 0, .int .i64 0, .int .i64 0] : List Value).take 0 ++ ints xs ++ ([Value.int .i64 0, .int .i64 0, .int .i64 0, .int .i64 0] : List Value).drop (0 + xs.length * 1) = [.int .i64 (keyT xs).a, .int .i64 (keyT xs).b, .int .i64 (keyT xs).c, .int .i64 (keyT xs).d] := by
 match xs, h with
 | [], _ => rfl
 | [_], _ => rfl
 | [_, _], _ => rfl
 | [_, _, _], _ => rfl
 | [_, _, _, _], _ => rfl
 | _ :: _ :: _ :: _ :: _ :: _, h => simp at h
abbrev kcs (t : Tm) : List Value := [.int .i64 (keyT t).a, .int .i64 (keyT t).b, .int .i64 (keyT t).c, .int .i64 (keyT t).d]
set_option maxHeartbeats 2000000 in
theorem key_fn {a : Option Addr} {xs : List Int} {c : Nat} (hx : Row S w0 η a (ints xs)) (h4 : xs.length ≤ 4) :
  Rt Tryz.prog 115 [.slice a xs.length c].toArray S w0 η (fun v η' => v = KT (keyT xs) ∧ η' = η) := by
 have hF := open_wide
 refine Rt.of (fn := Tryz.f115) Tryz.func115 rfl rfl ?_
 refine T.seq ?_
 refine T.region ?_
 refine TL.alloc hF rfl (fun b2 => ?_)
 refine TL.nil ?_
 refine TQ.then_n ?_
 refine T.seq ?_
 refine T.region ?_
 refine TL.sliceA hF rfl rfl ?_
 refine TL.move hF rfl rfl ?_
 refine TL.copy hF 0 (cs := [.int .i64 0, .int .i64 0, .int .i64 0, .int .i64 0]) (e' := 112) (k := xs.length) (ints xs) (kcs xs) rfl rfl rfl (by omega) (hx.up upc) (by simp) (ints1 _) (by simp; omega) (key_cells h4) rfl ?_
 refine TL.nil ?_
 refine TQ.then_n ?_
 refine T.seq ?_
 refine T.region ?_
 refine TL.loadA hF (kcs xs) rfl rfl (own_list (i := 0) (cs := kcs xs) rfl) rfl ?_
 refine TL.storeAI hF (kcs xs) 0 rfl rfl rfl rfl (by simp [Value.oneCell']) (by simp) ?_
 refine TL.nil ?_
 refine TQ.then_n ?_
 refine T.ret ?_
 refine TQ.retC (kcs xs) η rfl rfl rfl (own_list (i := 0) (cs := kcs xs) rfl) (List.sublist_cons_self _ _) ⟨rfl, rfl⟩
set_option maxHeartbeats 2000000 in
theorem Grow0_fn (k : Nat) (hk : k < 1099511627776) :
  Rt Tryz.prog 133 [.slice none 0 0, .int .i64 (k : Int)].toArray S w0 η (fun v η' => ∃ a cap seg, v = .slice a 0 cap ∧ OSl 22 1 (.slice a 0 cap) 0 [] seg ∧ η' = seg :: η) := by
 have hF := open_wide
 refine Rt.of (fn := Tryz.f133) Tryz.func133 rfl rfl ?_
 refine T.seq ?_
 refine T.region ?_
 refine TL.assign hF rfl rfl ?_
 refine TL.nil ?_
 refine TQ.then_n ?_
 refine T.seq ?_
 refine T.seq ?_
 refine T.region ?_
 refine TL.move hF rfl rfl ?_
 refine TL.bin hF rfl rfl rfl rfl ?_
 refine TL.nil ?_
 refine TQ.then_n ?_
 refine T.cond_f rfl (decide_eq_false (by omega)) ?_
 refine T.skip ?_
 refine TQ.then_n ?_
 refine T.seq ?_
 refine T.seq ?_
 refine T.region ?_
 refine TL.move hF rfl rfl ?_
 refine TL.move hF rfl rfl ?_
 refine TL.capS hF rfl rfl ?_
 refine TL.move hF rfl rfl ?_
 refine TL.len hF rfl rfl ?_
 refine TL.sub hF rfl rfl (by omega) (by omega) rfl ?_
 refine TL.sub hF rfl rfl (by omega) (by omega) rfl ?_
 refine TL.assign hF rfl rfl ?_
 refine TL.nil ?_
 refine TQ.then_n ?_
 refine T.seq ?_
 refine T.region ?_
 refine TL.move hF rfl rfl ?_
 refine TL.bin hF rfl rfl rfl rfl ?_
 refine TL.nil ?_
 refine TQ.then_n ?_
 first | refine T.cond_d rfl (fun ht16 => ?_) (fun ht16 => ?_) | refine T.cond _ rfl (fun ht16 => ?_) (fun ht16 => ?_)
 ·refine T.region ?_
  refine TL.move hF rfl rfl ?_
  refine TL.move hF rfl rfl ?_
  refine TL.capS hF rfl rfl ?_
  refine TL.slice hF (i := 0) (j := 0) rfl rfl rfl (by omega) (by omega) rfl ?_
  refine TL.move hF rfl rfl ?_
  refine TL.appendMk hF (k := k) rfl (congrArg (fun z => some (Value.int .i64 z)) (by omega)) (by omega) rfl (by decide) (by omega) (by omega) rfl (fun b22 c22 cur22 hs22 hc22 => ?_)
  refine TL.move hF rfl rfl ?_
  refine TL.len hF rfl rfl ?_
  refine TL.slice hF (i := 0) (j := 0) rfl rfl rfl (by omega) (by omega) rfl ?_
  rw [cut0']
  refine TL.assign hF rfl rfl ?_
  refine TL.nil ?_
  refine TQ.then_n ?_
  refine T.seq ?_
  refine T.region ?_
  refine TL.move hF rfl rfl ?_
  refine TL.assign hF rfl rfl ?_
  refine TL.nil ?_
  refine TQ.then_n ?_
  refine T.ret ?_
  refine TQ.rets [4] _ rfl rfl rfl ?_
  exact ⟨some ⟨b22, 0, none⟩, c22, _, rfl, ⟨by simp, .inr ⟨b22, c22, cur22, rfl, rfl, by omega, hs22, by simp⟩⟩, rfl⟩
 ·refine T.skip ?_
  refine TQ.then_n ?_
  refine T.seq ?_
  refine T.region ?_
  refine TL.move hF rfl rfl ?_
  refine TL.assign hF rfl rfl ?_
  refine TL.nil ?_
  refine TQ.then_n ?_
  refine T.ret ?_
  refine TQ.hnil ?_
  refine TQ.rets [4] _ rfl rfl rfl ?_
  exact ⟨none, 0, [], rfl, OSl.nil _ _, rfl⟩
set_option maxHeartbeats 2000000 in
theorem Concat_fn {a : Option Addr} {gs : List GL} {c : Nat} (hx : L3 S w0 η a gs) (hl : gs.length < 100) (hs : (catG gs).length < 1099511627776) :
  Rt Tryz.prog 113 [.slice a gs.length c].toArray S w0 η (fun v η' => ∃ a' cap seg, v = .slice a' (catG gs).length cap ∧ OSl 22 1 (.slice a' (catG gs).length cap) (catG gs).length ((catG gs).map hc) seg ∧ η' = seg :: η) := by
 have hF := open_wide
 refine Rt.of (fn := Tryz.f113) Tryz.func113 rfl rfl ?_
 refine T.seq ?_
 refine T.region ?_
 refine TL.assign hF rfl rfl ?_
 refine TL.nil ?_
 refine TQ.then_n ?_
 refine T.seq ?_
 refine T.region ?_
 refine TL.assign hF rfl rfl ?_
 refine TL.nil ?_
 refine TQ.then_n ?_
 refine T.seq ?_
 refine T.seq ?_
 refine T.region ?_
 refine TL.move hF rfl rfl ?_
 refine TL.len hF rfl rfl ?_
 refine TL.move hF rfl rfl ?_
 refine TL.nil ?_
 refine TQ.then_n ?_
 refine T.block ?_
 refine T.loop (ι := Nat) (fun k => k ≤ gs.length) (fun k => [(0, .slice a gs.length c), (2, .slice none 0 0), (3, .int .i64 ((catG (gs.take k)).length : Int)), (9, .slice a gs.length c), (10, .int .i64 (gs.length : Int)), (11, .int .i64 (k : Int))]) (fun _ => η) (fun k => gs.length - k) 0 (Nat.zero_le _) ⟨rfl, rfl, rfl, rfl, rfl, rfl, trivial⟩ rfl ?_
 intro k hk
 have hle := catG_le gs k
 refine T.seq ?_
 refine T.region ?_
 refine TL.bin hF rfl rfl rfl rfl ?_
 refine TL.nil ?_
 refine TQ.then_n ?_
 refine T.seq ?_
 first | refine T.cond_d rfl (fun ht12 => ?_) (fun ht12 => ?_) | refine T.cond _ rfl (fun ht12 => ?_) (fun ht12 => ?_)
 ·refine T.skip ?_
  refine TQ.then_n ?_
  refine T.seq ?_
  refine T.block ?_
  refine T.seq ?_
  refine T.region ?_
  refine TL.indexAddr hF rfl rfl (hx.ad (i := k) (by omega)) (by omega) (by omega) rfl ?_
  refine TL.load hF rfl (hx.at (i := k) (by omega)) rfl ?_
  refine TL.assign hF rfl rfl ?_
  refine TL.nil ?_
  refine TQ.then_n ?_
  refine T.seq ?_
  refine T.region ?_
  refine TL.move hF rfl rfl ?_
  refine TL.move hF rfl rfl ?_
  refine TL.len hF rfl rfl ?_
  have hk1 : k < gs.length := by omega
  have e1 := catG_succ hk1
  have hle1 := catG_le gs (k + 1)
  have e2 : ((catG (gs.take k)).length : Int) + (gs[k].2.1.length : Int) = ((catG (gs.take (k + 1))).length : Int) := by rw [e1, List.length_append]; omega
  refine TL.addK hF rfl rfl (r := ((catG (gs.take (k + 1))).length : Int)) (by rw [e2]; exact wrap_i64 (by omega) (by omega)) rfl ?_
  refine TL.assign hF rfl rfl ?_
  refine TL.nil ?_
  refine TQ.then_n ?_
  refine T.seq ?_
  refine T.region ?_
  refine TL.move hF rfl rfl ?_
  refine TL.bin hF rfl rfl rfl rfl ?_
  refine TL.nil ?_
  refine TQ.then_n ?_
  refine T.cond_f rfl (decide_eq_false (by omega)) ?_
  refine T.skip ?_
  refine TQ.block_n ?_
  refine TQ.then_n ?_
  refine T.region ?_
  refine TL.add hF rfl rfl (by omega) (by omega) rfl ?_
  refine TL.move hF rfl rfl ?_
  refine TL.nil ?_
  refine TQ.round (k + 1) (by omega) (by omega) ⟨rfl, rfl, rfl, rfl, rfl, rfl, trivial⟩ rfl
 ·refine T.exit ?_
  refine TQ.then_x ?_
  refine TQ.then_x ?_
  refine TQ.block_x ?_
  refine TQ.then_n ?_
  refine T.seq ?_
  refine T.region ?_
  refine TL.move hF rfl rfl ?_
  refine TL.call hF (Grow0_fn (catG (gs.take k)).length (by omega)) rfl rfl ?_
  rintro _ _ ⟨ga, gcap, gseg, rfl, ho0, rfl⟩
  refine TL.assign hF rfl rfl ?_
  refine TL.nil ?_
  refine TQ.then_n ?_
  refine T.seq ?_
  refine T.seq ?_
  refine T.region ?_
  refine TL.move hF rfl rfl ?_
  refine TL.len hF rfl rfl ?_
  refine TL.move hF rfl rfl ?_
  refine TL.nil ?_
  refine TQ.then_n ?_
  refine T.block ?_
  refine T.loop (ι := Nat × Option Addr × Nat × Seg) (fun i => i.1 ≤ gs.length ∧ OSl 22 1 (.slice i.2.1 (catG (gs.take i.1)).length i.2.2.1) (catG (gs.take i.1)).length ((catG (gs.take i.1)).map hc) i.2.2.2) (fun i => [(2, .slice none 0 0), (6, .slice i.2.1 (catG (gs.take i.1)).length i.2.2.1), (25, .slice a gs.length c), (26, .int .i64 (gs.length : Int)), (27, .int .i64 (i.1 : Int))]) (fun i => i.2.2.2 :: η) (fun i => gs.length - i.1) (0, ga, gcap, gseg) ⟨Nat.zero_le _, by simpa [catG] using ho0⟩ ⟨rfl, rfl, rfl, rfl, rfl, trivial⟩ rfl ?_
  rintro ⟨m, ma, mc, mseg⟩ ⟨hm, ho⟩
  dsimp only at hm ho
  refine T.seq ?_
  refine T.region ?_
  refine TL.bin hF rfl rfl rfl rfl ?_
  refine TL.nil ?_
  refine TQ.then_n ?_
  refine T.seq ?_
  first | refine T.cond_d rfl (fun ht28 => ?_) (fun ht28 => ?_) | refine T.cond _ rfl (fun ht28 => ?_) (fun ht28 => ?_)
  ·refine T.skip ?_
   refine TQ.then_n ?_
   refine T.seq ?_
   refine T.block ?_
   refine T.seq ?_
   refine T.region ?_
   refine TL.indexAddr hF rfl rfl (hx.ad (i := m) (by omega)) (by omega) (by omega) rfl ?_
   refine TL.load hF rfl ((hx.up upc).at (i := m) (by omega)) rfl ?_
   refine TL.assign hF rfl rfl ?_
   refine TL.nil ?_
   refine TQ.then_n ?_
   refine T.region ?_
   refine TL.move hF rfl rfl ?_
   refine TL.move hF rfl rfl ?_
   have hm1 : m < gs.length := by omega
   have e1 := catG_succ hm1
   have hle1 := catG_le gs (m + 1)
   have hlen : (catG (gs.take m)).length + gs[m].2.1.length = (catG (gs.take (m + 1))).length := by rw [e1, List.length_append]
   refine TL.append hF 0 rfl rfl rfl ho (((hx.up upc).item _ (List.getElem_mem hm1)).row).src rfl (by simp) (hc1 _) (by omega) (by omega) rfl (fun a' cap' seg' ho' => ?_)
   rw [hlen, ← List.map_append, ← e1] at ho'
   rw [hlen]
   refine TL.assign hF rfl rfl ?_
   refine TL.nil ?_
   refine TQ.block_n ?_
   refine TQ.then_n ?_
   refine T.region ?_
   refine TL.add hF rfl rfl (by omega) (by omega) rfl ?_
   refine TL.move hF rfl rfl ?_
   refine TL.nil ?_
   refine TQ.round (m + 1, a', cap', seg') ⟨by dsimp only; omega, ho'⟩ (by dsimp only; omega) ⟨rfl, rfl, rfl, rfl, rfl, trivial⟩ rfl
  ·refine T.exit ?_
   refine TQ.then_x ?_
   refine TQ.then_x ?_
   refine TQ.block_x ?_
   refine TQ.then_n ?_
   refine T.seq ?_
   refine T.region ?_
   refine TL.move hF rfl rfl ?_
   refine TL.assign hF rfl rfl ?_
   refine TL.nil ?_
   refine TQ.then_n ?_
   refine T.ret ?_
   refine TQ.rets [2] _ rfl rfl rfl ?_
   have e : gs.take m = gs := List.take_of_length_le (by omega)
   rw [e] at ho
   exact ⟨ma, mc, mseg, by show Value.slice ma (catG (gs.take m)).length mc = _; rw [e], ho, rfl⟩
end Go.Proofs.YteimjjpigohnhaaGreat
/-
  DERIVED: THE SHELF's CONTRACTS AT THIS DUMP, IN PLAIN WORDS (tools/lay-plain.mjs out of 'YteimjjpigohnhaaGreatSortL.lean', which tools/lay-shelf.mjs wrote): THE SAME DECLARATIONS UNDER THE SAME NAMES: 'import', 'namespace', 'open', 'def', 'theorem' AND NOTHING ELSE: no command of the shelf's: FOR A HAND-IN. Each laying: the table of numbers ('.._ren') and one theorem, a field a fact of the dump's own or the kernel's comparison; each contract: ONE APPLICATION.
-/
namespace Go.Proofs
open Go.Shelf
def Tryz.sortL_ren : Go.Shelf.Ren := ⟨fun | 14 => 134 | 20 => 139 | 21 => 140 | 22 => 141 | 23 => 142 | 24 => 143 | 25 => 144 | 26 => 145 | 27 => 146 | 46 => 152 | 47 => 153 | 48 => 154 | 49 => 155 | 50 => 156 | 15 => 135 | 57 => 157 | 28 => 147 | 29 => 148 | n => n, fun | 24 => 66 | 22 => 70 | 3 => 3 | 25 => 115 | 4 => 4 | 0 => 0 | 46 => 129 | 45 => 128 | 50 => 133 | 66 => 143 | 39 => 123 | 55 => 138 | 70 => 147 | 76 => 149 | 77 => 150 | 53 => 136 | 5 => 5 | 9 => 9 | n => n, fun | n => n⟩
theorem Tryz.sortL : Go.Proofs.SlLaysF.n14 Tryz.prog Tryz.sortL_ren := {
  mixed := by kernel_rfl
  f14 := ⟨Tryz.f134.name, by decide, Tryz.func134.trans (congrArg some (by kernel_rfl))⟩
  f15 := Tryz.func135.trans (congrArg some (by kernel_rfl))
  f20 := ⟨Tryz.f139.name, by decide, Tryz.func139.trans (congrArg some (by kernel_rfl))⟩
  f21 := ⟨Tryz.f140.name, by decide, Tryz.func140.trans (congrArg some (by kernel_rfl))⟩
  f22 := ⟨Tryz.f141.name, by decide, Tryz.func141.trans (congrArg some (by kernel_rfl))⟩
  f23 := ⟨Tryz.f142.name, by decide, Tryz.func142.trans (congrArg some (by kernel_rfl))⟩
  f24 := ⟨Tryz.f143.name, by decide, Tryz.func143.trans (congrArg some (by kernel_rfl))⟩
  f25 := ⟨Tryz.f144.name, by decide, Tryz.func144.trans (congrArg some (by kernel_rfl))⟩
  f26 := ⟨Tryz.f145.name, by decide, Tryz.func145.trans (congrArg some (by kernel_rfl))⟩
  f27 := ⟨Tryz.f146.name, by decide, Tryz.func146.trans (congrArg some (by kernel_rfl))⟩
  f28 := Tryz.func147.trans (congrArg some (by kernel_rfl))
  f29 := Tryz.func148.trans (congrArg some (by kernel_rfl))
  f46 := ⟨Tryz.f152.name, by decide, Tryz.func152.trans (congrArg some (by kernel_rfl))⟩
  f47 := Tryz.func153.trans (congrArg some (by kernel_rfl))
  f48 := Tryz.func154.trans (congrArg some (by kernel_rfl))
  f49 := ⟨Tryz.f155.name, by decide, Tryz.func155.trans (congrArg some (by kernel_rfl))⟩
  f50 := ⟨Tryz.f156.name, by decide, Tryz.func156.trans (congrArg some (by kernel_rfl))⟩
  f57 := ⟨Tryz.f157.name, by decide, Tryz.func157.trans (congrArg some (by kernel_rfl))⟩
  t0 := Tryz.underlying0
  a0 := Tryz.isAgg0
  z0 := Tryz.sizeOf0
  v0 := Tryz.zeroValue0
  t3 := Tryz.underlying3
  a3 := Tryz.isAgg3
  z3 := Tryz.sizeOf3
  v3 := Tryz.zeroValue3
  t4 := Tryz.underlying4
  a4 := Tryz.isAgg4
  z4 := Tryz.sizeOf4
  v4 := Tryz.zeroValue4
  t5 := Tryz.underlying5
  a5 := Tryz.isAgg5
  z5 := Tryz.sizeOf5
  v5 := Tryz.zeroValue5
  t9 := Tryz.underlying9
  a9 := Tryz.isAgg9
  z9 := Tryz.sizeOf9
  v9 := Tryz.zeroValue9
  t22 := Tryz.underlying70
  a22 := Tryz.isAgg70
  z22 := Tryz.sizeOf70
  v22 := Tryz.zeroValue70
  a24 := Tryz.isAgg66
  z24 := Tryz.sizeOf66
  t25 := Tryz.underlying115
  a25 := Tryz.isAgg115
  z25 := Tryz.sizeOf115
  v25 := Tryz.zeroValue115
  t39 := Tryz.underlying123
  a39 := Tryz.isAgg123
  z39 := Tryz.sizeOf123
  v39 := Tryz.zeroValue123
  t45 := Tryz.underlying128
  a45 := Tryz.isAgg128
  z45 := Tryz.sizeOf128
  v45 := Tryz.zeroValue128
  t46 := Tryz.underlying129
  a46 := Tryz.isAgg129
  z46 := Tryz.sizeOf129
  v46 := Tryz.zeroValue129
  t50 := Tryz.underlying133
  a50 := Tryz.isAgg133
  z50 := Tryz.sizeOf133
  v50 := Tryz.zeroValue133
  t53 := Tryz.underlying136
  a53 := Tryz.isAgg136
  z53 := Tryz.sizeOf136
  v53 := Tryz.zeroValue136
  t55 := Tryz.underlying138
  a55 := Tryz.isAgg138
  z55 := Tryz.sizeOf138
  v55 := Tryz.zeroValue138
  t66 := Tryz.underlying143
  a66 := Tryz.isAgg143
  z66 := Tryz.sizeOf143
  v66 := Tryz.zeroValue143
  t70 := Tryz.underlying147
  a70 := Tryz.isAgg147
  z70 := Tryz.sizeOf147
  v70 := Tryz.zeroValue147
  t76 := Tryz.underlying149
  a76 := Tryz.isAgg149
  z76 := Tryz.sizeOf149
  v76 := Tryz.zeroValue149
  t77 := Tryz.underlying150
  a77 := Tryz.isAgg150
  z77 := Tryz.sizeOf150
  v77 := Tryz.zeroValue150 }
end Go.Proofs
/- Putting times in order, by the library's sort. -/
namespace Go.Proofs.YteimjjpigohnhaaGreat
open Go.Sl
variable {S : Nat → Prop} {w0 : World} {η : Heap}
set_option maxHeartbeats 2000000 in
theorem cmp1_fn {p q : HL} (hx : Row S w0 η p.1 (ints p.2.1)) (hy : Row S w0 η q.1 (ints q.2.1)) (hb : p.2.1.length < 2 ^ 63) :
    Rt Tryz.prog 118 [hc p, hc q].toArray S w0 η (fun v η' => v = .int .i64 (cmpT p.2.1 q.2.1) ∧ η' = η) := by
  have hF := open_wide
  refine Rt.of (fn := Tryz.f118) Tryz.func118 rfl rfl ?_
  refine T.seq ?_
  refine T.region ?_
  refine TL.assign hF rfl rfl ?_
  refine TL.nil ?_
  refine TQ.then_n ?_
  refine T.seq ?_
  refine T.region ?_
  refine TL.move hF rfl rfl ?_
  refine TL.move hF rfl rfl ?_
  refine TL.callV hF (Compare_fn hx hy hb) rfl rfl ?_
  refine TL.assign hF rfl rfl ?_
  refine TL.nil ?_
  refine TQ.then_n ?_
  refine T.ret ?_
  refine TQ.rets [4] _ rfl rfl rfl ?_
  exact ⟨rfl, rfl⟩
open Go.Sort Go.Shelf Go.Proofs in
theorem bitsLen_fn (n : Nat) (hn : n < 1099511627776) : Rt Tryz.prog 135 [.int .u64 (n : Int)].toArray S w0 η (fun v η' => v = .int .i64 (Lib.bitLen n : Nat) ∧ η' = η) := fun w hh => by
  have h := Any.bits_Len (SlLaysF0.n15.bits (P := Tryz.prog) (ρ := Tryz.sortL_ren) { Tryz.sortL with }) (n : Int) w (by omega) (by omega)
  rw [Int.toNat_natCast] at h
  refine h.mono ?_
  rintro e w' ⟨rfl, rfl⟩
  exact ⟨_, _, rfl, hh, rfl, rfl⟩
/-- Sorted, as slices.Compare says. -/
abbrev Srt (outs : List (HL × Seg)) : Prop := outs.Pairwise fun x y => ¬ cmpT y.1.2.1 x.1.2.1 < 0
open Go.Sort in
theorem swo_cmp {m w : Nat} (t : _root_.Fin (m + 1) → Tm) (h : ∀ j, (t j).length = w) : SWO (ltOf fun i j => cmpT (t i) (t j)) := by
  have e : ∀ i j, ltOf (fun i j => cmpT (t i) (t j)) i j = lxl (t i) (t j) := fun i j => by
    rw [Bool.eq_iff_iff, ltOf, decide_eq_true_eq]; exact cmpT_lt ((h i).trans (h j).symm)
  refine ⟨fun i => by rw [e]; exact lxl_irr _, fun i j k h1 h2 => by rw [e] at *; exact lxl_trans h1 h2, fun i j k h1 h2 => ?_⟩
  rw [e] at *
  cases h3 : lxl (t i) (t k) with
  | false => rfl
  | true =>
    by_cases h4 : t i = t j
    · rw [h4, h2] at h3; cases h3
    · rcases lxl_total ((h i).trans (h j).symm) h4 with h5 | h5
      · rw [h1] at h5; cases h5
      · rw [lxl_trans h5 h3] at h2; cases h2
theorem pdqT_fn {w : Nat} {a : Option Addr} {cap lim : Nat} {outs : List (HL × Seg)} {og : Seg} (ho : OL 66 (.slice a outs.length cap) outs og) (hw : ∀ t ∈ outs, t.1.2.1.length = w) (hw2 : w < 2 ^ 63) (hl : outs.length < 1099511627776) (hlim : lim < 4611686018427387904) :
    Rt Tryz.prog 134 [.slice a outs.length cap, .int .i64 0, .int .i64 (outs.length : Int), .int .i64 (lim : Int), .func (.func 118) #[] #[]].toArray S w0 (og :: (outs.map (·.2) ++ η))
      (fun _ η' => ∃ outs' og', outs'.Perm outs ∧ OL 66 (.slice a outs'.length cap) outs' og' ∧ Srt outs' ∧ η' = og' :: (outs.map (·.2) ++ η)) := by
  cases hcase : outs with
  | nil =>
    subst hcase
    intro w hh
    have h := Go.Proofs.AnyF.pdqsortCmpFunc_none (P := Tryz.prog) (ρ := Tryz.sortL_ren) { Tryz.sortL with } a cap (lim : Int) (.func (.func 118) #[] #[]) w
    refine h.mono ?_
    rintro e w' ⟨rfl, rfl⟩
    exact ⟨_, _, rfl, hh, [], og, List.Perm.nil, ho, List.Pairwise.nil, rfl⟩
  | cons o0 os0 =>
    rw [← hcase]
    obtain ⟨m, hm⟩ : ∃ m, outs.length = m + 1 := ⟨os0.length, by rw [hcase]; rfl⟩
    clear hcase
    obtain ⟨g, cp, cur, hv, rfl, hsz⟩ := ho.o.ex (by omega)
    simp only [Value.slice.injEq, true_and] at hv
    obtain ⟨rfl, rfl⟩ := hv
    have hidx : ∀ j : _root_.Fin (m + 1), j.1 < outs.length := fun j => by rw [hm]; exact j.2
    have hlist : List.ofFn (fun j : _root_.Fin (m + 1) => outs[j.1]'(hidx j)) = outs := by
      apply List.ext_getElem
      · simp [hm]
      · intro i h1 h2; rw [List.getElem_ofFn]
    have hcur : cur.toList.take (m + 1) = List.ofFn fun j : _root_.Fin (m + 1) => hc (outs[j.1]'(hidx j)).1 := by
      have h1 : cur.toList.take (outs.length * 1) = outs.map fun t => hc t.1 := by
        rcases ho.o.2 with ⟨h0, _⟩ | ⟨g2, c2, cur2, hv2, hs2, _, _, ht⟩
        · cases h0
        · simp only [List.cons.injEq, Prod.mk.injEq, Obj.cells.injEq, and_true] at hs2
          obtain ⟨_, rfl⟩ := hs2
          exact ht
      rw [Nat.mul_one, hm] at h1
      rw [h1]
      conv => lhs; rw [← hlist]
      rw [List.map_ofFn]; rfl
    have hr := pdq_rt (S := S) (w0 := w0) (η := outs.map (·.2) ++ η) (e := 66) (cap := cap) (lim := lim) (g := 118) (cb := []) (b := g) Tryz.sortL (fun j : _root_.Fin (m + 1) => hc (outs[j.1]'(hidx j)).1) (fun _ => rfl) (fun i j => cmpT (outs[i.1]'(hidx i)).1.2.1 (outs[j.1]'(hidx j)).1.2.1)
      (swo_cmp (fun j : _root_.Fin (m + 1) => (outs[j.1]'(hidx j)).1.2.1) (fun j => hw _ (List.getElem_mem _))) hcur (by omega) hlim (fun W hW x y => by
        have hrow : ∀ j : _root_.Fin (m + 1), Row (· < W.heap.size) W [] (outs[j.1]'(hidx j)).1.1 (ints (outs[j.1]'(hidx j)).1.2.1) := fun j => by
          have hr : Row S w0 (outs.map (·.2) ++ η) (outs[j.1]'(hidx j)).1.1 (ints (outs[j.1]'(hidx j)).1.2.1) := (ho.i _ (List.getElem_mem (hidx j))).row (List.mem_append_left _ (List.mem_map_of_mem (List.getElem_mem (hidx j))))
          exact ⟨hr.ad, fun i v h => hW _ _ (hr.cell i v h)⟩
        exact (cmp1_fn (hrow x) (hrow y) (by rw [hw _ (List.getElem_mem (hidx x))]; exact hw2)).mono fun v η' h => h.1)
    rw [hm]
    refine Rt.mono hr ?_
    rintro _ _ ⟨cur', dk, rfl, hcs, hperm, hcells, hsorted⟩
    have hdl : dk.length = m + 1 := by rw [hperm.length_eq]; simp
    have hp2 : (dk.map fun j : _root_.Fin (m + 1) => outs[j.1]'(hidx j)).Perm outs := by
      have h1 := hperm.map (fun j : _root_.Fin (m + 1) => outs[j.1]'(hidx j))
      rw [List.map_ofFn] at h1
      have h2 : List.ofFn ((fun j : _root_.Fin (m + 1) => outs[j.1]'(hidx j)) ∘ id) = outs := hlist
      rwa [h2] at h1
    have hpl : (dk.map fun j : _root_.Fin (m + 1) => outs[j.1]'(hidx j)).length = m + 1 := by simp [hdl]
    refine ⟨dk.map fun j => outs[j.1]'(hidx j), [(g, .cells cur' 66 (0, 0))], hp2, ⟨?_, fun t ht => ho.i t (hp2.mem_iff.1 ht)⟩, ?_, rfl⟩
    · rw [hpl]
      refine ⟨by simp [hdl], .inr ⟨g, cap, cur', rfl, rfl, ?_, ?_, ?_⟩⟩
      · rcases ho.o.2 with ⟨h0, _⟩ | ⟨g2, c2, cur2, hv2, hs2, hn2, _, _⟩
        · cases h0
        · simp only [Value.slice.injEq, true_and] at hv2
          obtain ⟨_, rfl⟩ := hv2
          rw [← hm]; exact hn2
      · rcases ho.o.2 with ⟨h0, _⟩ | ⟨g2, c2, cur2, hv2, hs2, _, hz2, _⟩
        · cases h0
        · simp only [Value.slice.injEq, true_and] at hv2
          obtain ⟨_, rfl⟩ := hv2
          simp only [List.cons.injEq, Prod.mk.injEq, Obj.cells.injEq, and_true] at hs2
          obtain ⟨_, rfl⟩ := hs2
          rw [hcs]; exact hz2
      · rw [Nat.mul_one, hcells, List.map_map]; rfl
    · exact List.pairwise_map.2 hsorted

set_option maxHeartbeats 2000000 in
theorem SortT_fn {w : Nat} {a : Option Addr} {cap : Nat} {outs : List (HL × Seg)} {og : Seg} (ho : OL 66 (.slice a outs.length cap) outs og) (hw : ∀ t ∈ outs, t.1.2.1.length = w) (hw2 : w < 2 ^ 63) (hl : outs.length < 1099511627776) :
    Rt Tryz.prog 117 [.slice a outs.length cap, .func (.func 118) #[] #[]].toArray S w0 (og :: (outs.map (·.2) ++ η)) (fun _ η' => ∃ outs' og', outs'.Perm outs ∧ OL 66 (.slice a outs'.length cap) outs' og' ∧ Srt outs' ∧ η' = og' :: (outs.map (·.2) ++ η)) := by
  have hF := open_wide
  refine Rt.of (fn := Tryz.f117) Tryz.func117 rfl rfl ?_
  refine T.seq ?_
  refine T.region ?_
  refine TL.move hF rfl rfl ?_
  refine TL.len hF rfl rfl ?_
  refine TL.assign hF rfl rfl ?_
  refine TL.nil ?_
  refine TQ.then_n ?_
  refine T.region ?_
  refine TL.move hF rfl rfl ?_
  refine TL.move hF rfl rfl ?_
  refine TL.move hF rfl rfl ?_
  refine TL.convK hF (r := (outs.length : Int)) rfl (wrap_u64 (by omega) (by omega)) rfl ?_
  refine TL.callV hF (bitsLen_fn _ (by omega)) rfl rfl ?_
  refine TL.move hF rfl rfl ?_
  refine TL.call hF (pdqT_fn (lim := Lib.bitLen outs.length) ho hw hw2 hl (Nat.lt_of_le_of_lt (Lib.bitLen_le outs.length 62 (by omega) (by omega)) (by omega))) rfl rfl ?_
  rintro _ _ h
  refine TL.nil ?_
  refine TQ.norm ?_
  refine TQ.rets [] _ rfl rfl rfl ?_
  exact h
end Go.Proofs.YteimjjpigohnhaaGreat
/- What is refused; what is outer; copies of lists. -/
namespace Go.Proofs.YteimjjpigohnhaaGreat
open Go.Sl
variable {S : Nat → Prop} {w0 : World} {η : Heap}
def numOk (n : Int) : Bool := decide (0 ≤ n) && decide (n ≤ 1073741824)
theorem fitW_cons (w : Nat) (t : Tm) (l : List Tm) : fitW w (t :: l) = (((decide (1 ≤ t.length) && decide (t.length ≤ 4)) && t.all numOk) && decide (t.length = w) && fitW w l) := by
 rw [fitW, List.all_cons]; rfl
set_option maxHeartbeats 2000000 in
theorem check_fn {a : Option Addr} {ps : List HL} {c : Nat} (hx : LL S w0 η a ps) (hl : ps.length < 2 ^ 63) (hlx : ∀ p ∈ ps, p.2.1.length < 2 ^ 63) :
  RtE Tryz.prog 67 [.slice a ps.length c].toArray S w0 η (fun _ η' => fitT (tx ps) = true ∧ η' = η) (fun ch η' => fitT (tx ps) = false ∧ ch = stopV 1 ∧ η' = η) := by
 have hF := open_wide
 refine RtE.of (fn := Tryz.f67) Tryz.func67 rfl rfl ?_
 refine T.seq ?_
 refine T.region ?_
 refine TL.move hF rfl rfl ?_
 refine TL.len hF rfl rfl ?_
 refine TL.move hF rfl rfl ?_
 refine TL.nil ?_
 refine TQ.then_n ?_
 refine T.block ?_
 refine T.loop (ι := Nat) (fun k => k ≤ ps.length ∧ fitT (tx ps) = fitW ((tx ps).headD []).length ((tx ps).drop k)) (fun k => [(0, .slice a ps.length c), (6, .slice a ps.length c), (7, .int .i64 (ps.length : Int)), (8, .int .i64 (k : Int))]) (fun _ => η) (fun k => ps.length - k) 0 ⟨Nat.zero_le _, by simp [fitT]⟩ ⟨rfl, rfl, rfl, rfl, trivial⟩ rfl ?_
 rintro k ⟨hk, hs⟩
 refine T.seq ?_
 refine T.region ?_
 refine TL.bin hF rfl rfl rfl rfl ?_
 refine TL.nil ?_
 refine TQ.then_n ?_
 refine T.seq ?_
 first | refine T.cond_d rfl (fun ht9 => ?_) (fun ht9 => ?_) | refine T.cond _ rfl (fun ht9 => ?_) (fun ht9 => ?_)
 ·refine T.skip ?_
  refine TQ.then_n ?_
  refine T.seq ?_
  refine T.block ?_
  refine T.seq ?_
  refine T.region ?_
  refine TL.indexAddr hF rfl rfl (hx.ad (i := k) (by omega)) (by omega) (by omega) rfl ?_
  have hkl : k < ps.length := by omega
  have hlk := hlx _ (List.getElem_mem hkl)
  rw [tx_drop hkl, fitW_cons, tx_head (by omega)] at hs
  refine TL.load hF rfl (hx.at (i := k) hkl) rfl ?_
  refine TL.assign hF rfl rfl ?_
  refine TL.nil ?_
  refine TQ.then_n ?_
  refine T.seq ?_
  refine T.region ?_
  refine TL.move hF rfl rfl ?_
  refine TL.len hF rfl rfl ?_
  refine TL.bin hF rfl rfl rfl rfl ?_
  refine TL.move hF rfl rfl ?_
  refine TL.gd (t := 15) rfl (fun g3_15 => ?_) (fun g3_15 => ?_)
  ·refine TL.on rfl rfl rfl (decide_eq_true g3_15) ?_
   refine TL.move hF rfl rfl ?_
   refine TL.on rfl rfl rfl (decide_eq_true g3_15) ?_
   refine TL.len hF rfl rfl ?_
   refine TL.on rfl rfl rfl (decide_eq_true g3_15) ?_
   refine TL.bin hF rfl rfl rfl rfl ?_
   refine TL.pickT hF rfl (decide_eq_true g3_15) rfl rfl ?_
   refine TL.move hF rfl rfl ?_
   refine TL.gd (t := 20) rfl (fun g3_20 => ?_) (fun g3_20 => ?_)
   ·refine TL.on rfl rfl rfl (decide_eq_true g3_20) ?_
    refine TL.move hF rfl rfl ?_
    refine TL.on rfl rfl rfl (decide_eq_true g3_20) ?_
    refine TL.len hF rfl rfl ?_
    refine TL.on rfl rfl rfl (decide_eq_true g3_20) ?_
    refine TL.move hF rfl rfl ?_
    refine TL.on rfl rfl rfl (decide_eq_true g3_20) ?_
    refine TL.indexAddr hF rfl rfl (hx.ad (i := 0) (by omega)) (by omega) (by omega) rfl ?_
    refine TL.on rfl rfl rfl (decide_eq_true g3_20) ?_
    refine TL.load hF rfl (hx.at (i := 0) (by omega)) rfl ?_
    refine TL.on rfl rfl rfl (decide_eq_true g3_20) ?_
    refine TL.len hF rfl rfl ?_
    refine TL.on rfl rfl rfl (decide_eq_true g3_20) ?_
    refine TL.bin hF rfl rfl rfl rfl ?_
    refine TL.pickT hF rfl (decide_eq_true g3_20) rfl rfl ?_
    refine TL.callM hF (must_fn _ 1) rfl rfl (fun hA _ => ?_) (fun hA => ?_)
    ·skip
     refine TL.nil ?_
     refine TQ.then_n ?_
     refine T.seq ?_
     refine T.region ?_
     refine TL.move hF rfl rfl ?_
     refine TL.len hF rfl rfl ?_
     refine TL.move hF rfl rfl ?_
     refine TL.nil ?_
     refine TQ.then_n ?_
     refine T.block ?_
     have hA' : ps[k].2.1.length ≤ 4 ∧ ps[k].2.1.length = ps[0].2.1.length := by simp at hA; exact ⟨by omega, by omega⟩
     refine T.loop (ι := Nat) (fun j => j ≤ ps[k].2.1.length ∧ fitT (tx ps) = ((ps[k].2.1.drop j).all numOk && fitW (ps[0].2.1).length ((tx ps).drop (k + 1)))) (fun j => [(0, .slice a ps.length c), (6, .slice a ps.length c), (7, .int .i64 (ps.length : Int)), (8, .int .i64 (k : Int)), (30, hc ps[k]), (31, .int .i64 (ps[k].2.1.length : Int)), (32, .int .i64 (j : Int))]) (fun _ => η) (fun j => ps[k].2.1.length - j) 0 ⟨Nat.zero_le _, by rw [hs, decide_eq_true (show 1 ≤ ps[k].2.1.length by omega), decide_eq_true hA'.1, decide_eq_true hA'.2]; simp⟩ ⟨rfl, rfl, rfl, rfl, rfl, rfl, rfl, trivial⟩ rfl ?_
     rintro j ⟨hj, hjs⟩
     refine T.seq ?_
     refine T.region ?_
     refine TL.bin hF rfl rfl rfl rfl ?_
     refine TL.nil ?_
     refine TQ.then_n ?_
     refine T.seq ?_
     first | refine T.cond_d rfl (fun ht33 => ?_) (fun ht33 => ?_) | refine T.cond _ rfl (fun ht33 => ?_) (fun ht33 => ?_)
     ·refine T.skip ?_
      refine TQ.then_n ?_
      refine T.seq ?_
      refine T.block ?_
      refine T.seq ?_
      refine T.region ?_
      refine TL.indexAddr hF rfl rfl ((hx.it (i := k) (by omega)).adi (i := j) (by simp; omega)) (by omega) (by omega) rfl ?_
      refine TL.load hF rfl ((hx.it (i := k) (by omega)).int (i := j) (by omega)) rfl ?_
      refine TL.assign hF rfl rfl ?_
      refine TL.nil ?_
      refine TQ.then_n ?_
      refine T.region ?_
      refine TL.move hF rfl rfl ?_
      refine TL.bin hF rfl rfl rfl rfl ?_
      refine TL.move hF rfl rfl ?_
      refine TL.gd (t := 38) rfl (fun g7_38 => ?_) (fun g7_38 => ?_)
      ·refine TL.on rfl rfl rfl (decide_eq_true g7_38) ?_
       refine TL.move hF rfl rfl ?_
       refine TL.on rfl rfl rfl (decide_eq_true g7_38) ?_
       refine TL.bin hF rfl rfl rfl rfl ?_
       refine TL.pickT hF rfl (decide_eq_true g7_38) rfl rfl ?_
       refine TL.callM hF (must_fn _ 1) rfl rfl (fun hB _ => ?_) (fun hB => ?_)
       ·skip
        refine TL.nil ?_
        refine TQ.block_n ?_
        refine TQ.then_n ?_
        refine T.region ?_
        refine TL.add hF rfl rfl (by omega) (by omega) rfl ?_
        refine TL.move hF rfl rfl ?_
        refine TL.nil ?_
        have hB' : numOk (ps[k].2.1[j]'(by omega)) = true := by simp at hB; simp [numOk]; omega
        refine TQ.round (j + 1) ⟨by omega, by rw [hjs, drop_step (l := ps[k].2.1) (by omega), List.all_cons, hB', Bool.true_and]⟩ (by omega) ⟨rfl, rfl, rfl, rfl, rfl, rfl, rfl, trivial⟩ rfl
       ·skip
        refine TQ.block_p ?_
        refine TQ.then_p ?_
        refine TQ.then_p ?_
        refine TQ.block_p ?_
        refine TQ.block_p ?_
        refine TQ.then_p ?_
        refine TQ.then_p ?_
        refine TQ.block_p ?_
        have hB' : numOk (ps[k].2.1[j]'(by omega)) = false := by simp at hB; simp [numOk]; omega
        exact TQ.panicE ⟨by rw [hjs, drop_step (l := ps[k].2.1) (by omega), List.all_cons, hB']; rfl, rfl, rfl⟩
      ·refine TL.off hF rfl rfl rfl (decide_eq_false g7_38) rfl ?_
       refine TL.off hF rfl rfl rfl (decide_eq_false g7_38) rfl ?_
       refine TL.pickF hF rfl (decide_eq_false g7_38) rfl rfl ?_
       refine TL.callE hF (must_no 1) rfl rfl (fun _ _ h => h.elim) ?_
       rintro _ _ ⟨rfl, rfl⟩
       refine TQ.block_p ?_
       refine TQ.then_p ?_
       refine TQ.then_p ?_
       refine TQ.block_p ?_
       refine TQ.block_p ?_
       refine TQ.then_p ?_
       refine TQ.then_p ?_
       refine TQ.block_p ?_
       have hB' : numOk (ps[k].2.1[j]'(by omega)) = false := by simp [numOk]; omega
       exact TQ.panicE ⟨by rw [hjs, drop_step (l := ps[k].2.1) (by omega), List.all_cons, hB']; rfl, rfl, rfl⟩
     ·refine T.exit ?_
      refine TQ.then_x ?_
      refine TQ.then_x ?_
      refine TQ.block_x ?_
      refine TQ.block_n ?_
      refine TQ.then_n ?_
      refine T.region ?_
      refine TL.add hF rfl rfl (by omega) (by omega) rfl ?_
      refine TL.move hF rfl rfl ?_
      refine TL.nil ?_
      refine TQ.round (k + 1) ⟨by omega, by rw [hjs, List.drop_of_length_le (by omega), tx_head (by omega)]; simp⟩ (by omega) ⟨rfl, rfl, rfl, rfl, trivial⟩ rfl
    ·skip
     refine TQ.then_p ?_
     refine TQ.block_p ?_
     refine TQ.then_p ?_
     refine TQ.then_p ?_
     refine TQ.block_p ?_
     exact TQ.panicE ⟨by rw [hs, decide_eq_false (p := ps[k].2.1.length = ps[0].2.1.length) (by simp at hA; omega)]; simp, rfl, rfl⟩
   ·refine TL.off hF rfl rfl rfl (decide_eq_false g3_20) rfl ?_
    refine TL.off hF rfl rfl rfl (decide_eq_false g3_20) rfl ?_
    refine TL.off hF rfl rfl rfl (decide_eq_false g3_20) rfl ?_
    refine TL.off hF rfl rfl rfl (decide_eq_false g3_20) rfl ?_
    refine TL.off hF rfl rfl rfl (decide_eq_false g3_20) rfl ?_
    refine TL.off hF rfl rfl rfl (decide_eq_false g3_20) rfl ?_
    refine TL.off hF rfl rfl rfl (decide_eq_false g3_20) rfl ?_
    refine TL.pickF hF rfl (decide_eq_false g3_20) rfl rfl ?_
    refine TL.callE hF (must_no 1) rfl rfl (fun _ _ h => h.elim) ?_
    rintro _ _ ⟨rfl, rfl⟩
    refine TQ.then_p ?_
    refine TQ.block_p ?_
    refine TQ.then_p ?_
    refine TQ.then_p ?_
    refine TQ.block_p ?_
    exact TQ.panicE ⟨by rw [hs, decide_eq_false (p := ps[k].2.1.length ≤ 4) (by omega)]; simp, rfl, rfl⟩
  ·refine TL.off hF rfl rfl rfl (decide_eq_false g3_15) rfl ?_
   refine TL.off hF rfl rfl rfl (decide_eq_false g3_15) rfl ?_
   refine TL.off hF rfl rfl rfl (decide_eq_false g3_15) rfl ?_
   refine TL.pickF hF rfl (decide_eq_false g3_15) rfl rfl ?_
   refine TL.move hF rfl rfl ?_
   refine TL.off hF rfl rfl rfl rfl rfl ?_
   refine TL.off hF rfl rfl rfl rfl rfl ?_
   refine TL.off hF rfl rfl rfl rfl rfl ?_
   refine TL.off hF rfl rfl rfl rfl rfl ?_
   refine TL.off hF rfl rfl rfl rfl rfl ?_
   refine TL.off hF rfl rfl rfl rfl rfl ?_
   refine TL.off hF rfl rfl rfl rfl rfl ?_
   refine TL.pickF hF rfl rfl rfl rfl ?_
   refine TL.callE hF (must_no 1) rfl rfl (fun _ _ h => h.elim) ?_
   rintro _ _ ⟨rfl, rfl⟩
   refine TQ.then_p ?_
   refine TQ.block_p ?_
   refine TQ.then_p ?_
   refine TQ.then_p ?_
   refine TQ.block_p ?_
   exact TQ.panicE ⟨by rw [hs, decide_eq_false (p := 1 ≤ ps[k].2.1.length) (by omega)]; simp, rfl, rfl⟩
 ·refine T.exit ?_
  refine TQ.then_x ?_
  refine TQ.then_x ?_
  refine TQ.block_x ?_
  refine TQ.norm ?_
  refine TQ.retsE [] _ rfl rfl rfl ?_
  exact ⟨by rw [hs, List.drop_of_length_le (by rw [tx_len]; omega)]; rfl, rfl⟩
/-- The error of lists of times, and more times, that must fit together. -/
def listE (gs : List GL) (more : List HL) : Int := if gs.any (fun g => decide (200 < g.2.1.length)) then 3 else if fitT (tx (catG gs) ++ tx more) then 0 else 1
theorem any_drop {gs : List GL} {k : Nat} (hk : k < gs.length) : (gs.drop k).any (fun g => decide (200 < g.2.1.length)) = (decide (200 < gs[k].2.1.length) || (gs.drop (k + 1)).any (fun g => decide (200 < g.2.1.length))) := by rw [drop_step hk, List.any_cons]
theorem catG_len {gs : List GL} (h : gs.any (fun g => decide (200 < g.2.1.length)) = false) : (catG gs).length ≤ 200 * gs.length := by
 induction gs with
 | nil => simp [catG]
 | cons g gs ih =>
  rw [List.any_cons, Bool.or_eq_false_iff] at h
  have h1 := of_decide_eq_false h.1
  have h2 := ih h.2
  unfold catG at h2 ⊢
  rw [List.flatMap_cons, List.length_append, List.length_cons]; omega
set_option maxHeartbeats 2000000 in
theorem listed_fn {a b : Option Addr} {gs : List GL} {c d : Nat} {more : List HL} (hx : L3 S w0 η a gs) (hm : LL S w0 η b more) (hl : gs.length < 50) (hml : more.length < 50) (hlx : ∀ p ∈ catG gs, p.2.1.length < 2 ^ 63) (hlm : ∀ p ∈ more, p.2.1.length < 2 ^ 63) (_hgl : ∀ g ∈ gs, g.2.1.length < 2 ^ 63) :
  RtE Tryz.prog 74 [.slice b more.length d, .slice a gs.length c].toArray S w0 η (fun _ η' => listE gs more = 0 ∧ η' = η) (fun ch η' => (listE gs more = 1 ∨ listE gs more = 3) ∧ ch = stopV (listE gs more) ∧ η' = η) := by
 have hF := open_wide
 refine RtE.of (fn := Tryz.f74) Tryz.func74 rfl rfl ?_
 refine T.seq ?_
 refine T.seq ?_
 refine T.region ?_
 refine TL.move hF rfl rfl ?_
 refine TL.len hF rfl rfl ?_
 refine TL.move hF rfl rfl ?_
 refine TL.nil ?_
 refine TQ.then_n ?_
 refine T.block ?_
 refine T.loop (ι := Nat) (fun k => k ≤ gs.length ∧ gs.any (fun g => decide (200 < g.2.1.length)) = (gs.drop k).any (fun g => decide (200 < g.2.1.length))) (fun k => [(0, .slice b more.length d), (1, .slice a gs.length c), (6, .slice a gs.length c), (7, .int .i64 (gs.length : Int)), (8, .int .i64 (k : Int))]) (fun _ => η) (fun k => gs.length - k) 0 ⟨Nat.zero_le _, by simp⟩ ⟨rfl, rfl, rfl, rfl, rfl, trivial⟩ rfl ?_
 rintro k ⟨hk, hs⟩
 refine T.seq ?_
 refine T.region ?_
 refine TL.bin hF rfl rfl rfl rfl ?_
 refine TL.nil ?_
 refine TQ.then_n ?_
 refine T.seq ?_
 first | refine T.cond_d rfl (fun ht9 => ?_) (fun ht9 => ?_) | refine T.cond _ rfl (fun ht9 => ?_) (fun ht9 => ?_)
 ·refine T.skip ?_
  refine TQ.then_n ?_
  refine T.seq ?_
  refine T.block ?_
  refine T.seq ?_
  refine T.region ?_
  refine TL.indexAddr hF rfl rfl (hx.ad (i := k) (by omega)) (by omega) (by omega) rfl ?_
  refine TL.load hF rfl (hx.at (i := k) (by omega)) rfl ?_
  refine TL.assign hF rfl rfl ?_
  refine TL.nil ?_
  refine TQ.then_n ?_
  refine T.region ?_
  refine TL.move hF rfl rfl ?_
  refine TL.len hF rfl rfl ?_
  refine TL.bin hF rfl rfl rfl rfl ?_
  refine TL.callM hF (must_fn _ 3) rfl rfl (fun hA _ => ?_) (fun hA => ?_)
  ·skip
   refine TL.nil ?_
   refine TQ.block_n ?_
   refine TQ.then_n ?_
   refine T.region ?_
   refine TL.add hF rfl rfl (by omega) (by omega) rfl ?_
   refine TL.move hF rfl rfl ?_
   refine TL.nil ?_
   refine TQ.round (k + 1) ⟨by omega, by rw [hs, any_drop (by omega), decide_eq_false (by simp at hA; omega), Bool.false_or]⟩ (by omega) ⟨rfl, rfl, rfl, rfl, rfl, trivial⟩ rfl
  ·skip
   refine TQ.block_p ?_
   refine TQ.then_p ?_
   refine TQ.then_p ?_
   refine TQ.block_p ?_
   refine TQ.then_p ?_
   have e : listE gs more = 3 := by unfold listE; rw [if_pos (by rw [hs, any_drop (by omega), decide_eq_true (by simp at hA; omega)]; rfl)]
   exact TQ.panicE ⟨.inr e, by rw [e], rfl⟩
 ·refine T.exit ?_
  refine TQ.then_x ?_
  refine TQ.then_x ?_
  refine TQ.block_x ?_
  refine TQ.then_n ?_
  refine T.region ?_
  refine TL.move hF rfl rfl ?_
  refine TL.call hF (CloneG_fn hx.row (by simp) (gc1 _) (by omega)) rfl rfl ?_
  rintro _ _ ⟨a1, c1, s1, rfl, ho1, rfl⟩
  refine TL.move hF rfl rfl ?_
  refine TL.buildSlice hF rfl (cs := #[gc (b, more, d)]) (e := 32) (fun w => by kernel_rfl) rfl (fun b3 => ?_)
  refine TL.append hF 1 rfl rfl rfl ho1 (row_own (cs := [gc (b, more, d)]) (e := 32) (by simp)).src rfl rfl (by simp [gc, Value.oneCell']) (by omega) (by omega) rfl (fun a2 c2 s2 ho2 => ?_)
  have hany : gs.any (fun g => decide (200 < g.2.1.length)) = false := by rw [hs, List.drop_of_length_le (by omega)]; rfl
  have hcl := catG_len hany
  have hcat : catG (gs ++ [(b, more, d)]) = catG gs ++ more := by simp [catG]
  have hgl3 : L3 S w0 ([(b3, Obj.cells #[gc (b, more, d)] 32 (0, 0))] :: s2 :: η) a2 (gs ++ [(b, more, d)]) := ⟨by
    have := ho2.row (S := S) (w0 := w0) (η := [(b3, Obj.cells #[gc (b, more, d)] 32 (0, 0))] :: s2 :: η) (by simp)
    simpa using this, fun g hg => by
    rcases List.mem_append.1 hg with h | h
    ·exact (hx.item g h).up (fun z hz => by simp [hz])
    ·rw [List.mem_singleton.1 h]; exact hm.up (fun z hz => by simp [hz])⟩
  have hlen1 : gs.length + 1 = (gs ++ [(b, more, d)]).length := by simp
  rw [hlen1]
  refine TL.call hF (Concat_fn hgl3 (by simp; omega) (by rw [hcat, List.length_append]; omega)) rfl rfl ?_
  rintro _ _ ⟨a4, c4, s4, rfl, ho4, rfl⟩
  have hll := (hgl3.up (η' := s4 :: [(b3, Obj.cells #[gc (b, more, d)] 32 (0, 0))] :: s2 :: η) (fun z hz => List.mem_cons_of_mem _ hz)).cat (ho4.row (by simp))
  rw [hcat] at hll ⊢
  refine TL.callE hF (check_fn hll (by rw [List.length_append]; omega) (fun p hp => (List.mem_append.1 hp).elim (hlx p) (hlm p))) rfl rfl ?_ ?_
  ·rintro _ _ ⟨hB, rfl⟩
   rw [tx_append] at hB
   refine TL.nil ?_
   refine TQ.norm ?_
   refine TQ.pop ?_
   refine TQ.pop ?_
   refine TQ.pop ?_
   refine TQ.retsE [] _ rfl rfl rfl ?_
   exact ⟨by unfold listE; rw [if_neg (by rw [hany]; simp), if_pos hB], rfl⟩
  ·rintro _ _ ⟨hB, rfl, rfl⟩
   rw [tx_append] at hB
   have e : listE gs more = 1 := by unfold listE; rw [if_neg (by rw [hany]; simp), if_neg (by rw [hB]; simp)]
   refine TQ.pop ?_
   refine TQ.pop ?_
   refine TQ.pop ?_
   exact TQ.panicE ⟨.inl e, by rw [e], rfl⟩
/-- The first one of which something is so. -/
def whereP (q : HL → Bool) : List HL → Nat → Int
 | [], _ => -1
 | x :: xs, i => if q x then i else whereP q xs (i + 1)
theorem whereP_ge {q : HL → Bool} : ∀ {xs : List HL} {i : Nat}, (0 ≤ whereP q xs i) ↔ xs.any q = true
 | [], i => by simp [whereP]
 | x :: xs, i => by
  unfold whereP
  rw [List.any_cons]
  by_cases h : q x = true
  ·simp [h]
  ·rw [if_neg h, whereP_ge (xs := xs)]; simp [h]
set_option maxHeartbeats 2000000 in
theorem IndexFunc_fn {a : Option Addr} {ps : List HL} {c : Nat} {g : Nat} [Ent Tryz.prog g] {caps : List Value} (q : HL → Bool) (hx : LL S w0 η a ps) (hl : ps.length < 2 ^ 63) (hq : ∀ p ∈ ps, Rt Tryz.prog g (hc p :: caps).toArray S w0 η (fun v η' => v = .bool (q p) ∧ η' = η)) :
  Rt Tryz.prog 137 [.slice a ps.length c, .func (.func g) #[] caps.toArray].toArray S w0 η (fun v η' => v = .int .i64 (whereP q ps 0) ∧ η' = η) := by
 have hF := open_wide
 refine Rt.of (fn := Tryz.f137) Tryz.func137 rfl rfl ?_
 refine T.seq ?_
 refine T.region ?_
 refine TL.assign hF rfl rfl ?_
 refine TL.nil ?_
 refine TQ.then_n ?_
 refine T.seq ?_
 refine T.seq ?_
 refine T.region ?_
 refine TL.move hF rfl rfl ?_
 refine TL.len hF rfl rfl ?_
 refine TL.move hF rfl rfl ?_
 refine TL.nil ?_
 refine TQ.then_n ?_
 refine T.block ?_
 refine T.loop (ι := Nat) (fun k => k ≤ ps.length ∧ whereP q ps 0 = whereP q (ps.drop k) k) (fun k => [(0, .slice a ps.length c), (1, .func (.func g) #[] caps.toArray), (7, .int .i64 (ps.length : Int)), (8, .int .i64 (k : Int))]) (fun _ => η) (fun k => ps.length - k) 0 ⟨Nat.zero_le _, by simp⟩ ⟨rfl, rfl, rfl, rfl, trivial⟩ rfl ?_
 rintro k ⟨hk, hs⟩
 refine T.seq ?_
 refine T.region ?_
 refine TL.bin hF rfl rfl rfl rfl ?_
 refine TL.nil ?_
 refine TQ.then_n ?_
 refine T.seq ?_
 first | refine T.cond_d rfl (fun ht9 => ?_) (fun ht9 => ?_) | refine T.cond _ rfl (fun ht9 => ?_) (fun ht9 => ?_)
 ·refine T.skip ?_
  refine TQ.then_n ?_
  refine T.seq ?_
  refine T.block ?_
  refine T.seq ?_
  refine T.region ?_
  refine TL.move hF rfl rfl ?_
  refine TL.assign hF rfl rfl ?_
  refine TL.nil ?_
  refine TQ.then_n ?_
  refine T.seq ?_
  refine T.region ?_
  refine TL.move hF rfl rfl ?_
  refine TL.move hF rfl rfl ?_
  refine TL.move hF rfl rfl ?_
  refine TL.indexAddr hF rfl rfl (hx.ad (i := k) (by omega)) (by omega) (by omega) rfl ?_
  refine TL.load hF rfl (hx.at (i := k) (by omega)) rfl ?_
  refine TL.callV hF (hq _ (List.getElem_mem (by omega))) rfl rfl ?_
  refine TL.nil ?_
  refine TQ.then_n ?_
  refine T.cond _ rfl (fun ht16 => ?_) (fun ht16 => ?_)
  ·refine T.seq ?_
   refine T.region ?_
   refine TL.move hF rfl rfl ?_
   refine TL.assign hF rfl rfl ?_
   refine TL.nil ?_
   refine TQ.then_n ?_
   refine T.ret ?_
   refine TQ.block_r ?_
   refine TQ.then_r ?_
   refine TQ.then_r ?_
   refine TQ.block_r ?_
   refine TQ.then_r ?_
   refine TQ.rets [4] _ rfl rfl rfl ?_
   exact ⟨by rw [hs, drop_step (by omega), whereP, if_pos ht16]; rfl, rfl⟩
  ·refine T.skip ?_
   refine TQ.block_n ?_
   refine TQ.then_n ?_
   refine T.region ?_
   refine TL.add hF rfl rfl (by omega) (by omega) rfl ?_
   refine TL.move hF rfl rfl ?_
   refine TL.nil ?_
   refine TQ.round (k + 1) ⟨by omega, by rw [hs, drop_step (by omega), whereP, if_neg (by rw [ht16]; simp)]⟩ (by omega) ⟨rfl, rfl, rfl, rfl, trivial⟩ rfl
 ·refine T.exit ?_
  refine TQ.then_x ?_
  refine TQ.then_x ?_
  refine TQ.block_x ?_
  refine TQ.then_n ?_
  refine T.seq ?_
  refine T.region ?_
  refine TL.assign hF rfl rfl ?_
  refine TL.nil ?_
  refine TQ.then_n ?_
  refine T.ret ?_
  refine TQ.rets [4] _ rfl rfl rfl ?_
  exact ⟨by rw [hs, List.drop_of_length_le (by omega)]; rfl, rfl⟩
set_option maxHeartbeats 2000000 in
theorem ContainsFunc_fn {a : Option Addr} {ps : List HL} {c : Nat} {g : Nat} [Ent Tryz.prog g] {caps : List Value} (q : HL → Bool) (hx : LL S w0 η a ps) (hl : ps.length < 2 ^ 63) (hq : ∀ p ∈ ps, Rt Tryz.prog g (hc p :: caps).toArray S w0 η (fun v η' => v = .bool (q p) ∧ η' = η)) :
  Rt Tryz.prog 123 [.slice a ps.length c, .func (.func g) #[] caps.toArray].toArray S w0 η (fun v η' => v = .bool (ps.any q) ∧ η' = η) := by
 have hF := open_wide
 refine Rt.of (fn := Tryz.f123) Tryz.func123 rfl rfl ?_
 refine T.seq ?_
 refine T.region ?_
 refine TL.assign hF rfl rfl ?_
 refine TL.nil ?_
 refine TQ.then_n ?_
 refine T.seq ?_
 refine T.region ?_
 refine TL.move hF rfl rfl ?_
 refine TL.move hF rfl rfl ?_
 refine TL.callV hF (IndexFunc_fn q hx hl hq) rfl rfl ?_
 refine TL.bin hF rfl rfl rfl rfl ?_
 refine TL.assign hF rfl rfl ?_
 refine TL.nil ?_
 refine TQ.then_n ?_
 refine T.ret ?_
 refine TQ.rets [4] _ rfl rfl rfl ?_
 exact ⟨congrArg Value.bool (by rw [Bool.eq_iff_iff, decide_eq_true_eq]; exact whereP_ge), rfl⟩
theorem filt_succ {q : HL → Bool} {ps : List HL} {k : Nat} (hk : k < ps.length) : (ps.take (k + 1)).filter q = (ps.take k).filter q ++ (if q ps[k] then [ps[k]] else []) := by
 rw [List.take_succ_eq_append_getElem hk, List.filter_append]
 by_cases h : q ps[k] = true <;> simp [h]
set_option maxHeartbeats 2000000 in
theorem sifted_fn {a : Option Addr} {ps : List HL} {c : Nat} {g : Nat} [Ent Tryz.prog g] {caps : List Value} (q : HL → Bool) (hx : LL S w0 η a ps) (hl : ps.length < 1099511627776) (hq : ∀ p ∈ ps, ∀ s : Seg, Rt Tryz.prog g (hc p :: caps).toArray S w0 (s :: η) (fun v η' => v = .bool (q p) ∧ η' = s :: η)) :
  Rt Tryz.prog 121 [.slice a ps.length c, .func (.func g) #[] caps.toArray].toArray S w0 η (fun v η' => ∃ a' cap seg, v = .slice a' (ps.filter q).length cap ∧ OSl 66 1 (.slice a' (ps.filter q).length cap) (ps.filter q).length ((ps.filter q).map hc) seg ∧ η' = seg :: η) := by
 have hF := open_wide
 refine Rt.of (fn := Tryz.f121) Tryz.func121 rfl rfl ?_
 refine T.seq ?_
 refine T.region ?_
 refine TL.assign hF rfl rfl ?_
 refine TL.nil ?_
 refine TQ.then_n ?_
 refine T.seq ?_
 refine T.seq ?_
 refine T.region ?_
 refine TL.move hF rfl rfl ?_
 refine TL.len hF rfl rfl ?_
 refine TL.move hF rfl rfl ?_
 refine TL.nil ?_
 refine TQ.then_n ?_
 refine T.block ?_
 refine T.hnil ?_
 refine T.loop (ι := Nat × Option Addr × Nat × Seg) (fun i => i.1 ≤ ps.length ∧ OSl 66 1 (.slice i.2.1 ((ps.take i.1).filter q).length i.2.2.1) ((ps.take i.1).filter q).length (((ps.take i.1).filter q).map hc) i.2.2.2) (fun i => [(1, .func (.func g) #[] caps.toArray), (4, .slice i.2.1 ((ps.take i.1).filter q).length i.2.2.1), (7, .slice a ps.length c), (8, .int .i64 (ps.length : Int)), (9, .int .i64 (i.1 : Int))]) (fun i => i.2.2.2 :: η) (fun i => ps.length - i.1) (0, none, 0, []) ⟨Nat.zero_le _, OSl.nil _ _⟩ ⟨rfl, rfl, rfl, rfl, rfl, trivial⟩ rfl ?_
 rintro ⟨k, oa, oc, os⟩ ⟨hk, ho⟩
 dsimp only at hk ho
 refine T.seq ?_
 refine T.region ?_
 refine TL.bin hF rfl rfl rfl rfl ?_
 refine TL.nil ?_
 refine TQ.then_n ?_
 refine T.seq ?_
 first | refine T.cond_d rfl (fun ht10 => ?_) (fun ht10 => ?_) | refine T.cond _ rfl (fun ht10 => ?_) (fun ht10 => ?_)
 ·refine T.skip ?_
  refine TQ.then_n ?_
  refine T.seq ?_
  refine T.block ?_
  refine T.seq ?_
  refine T.region ?_
  refine TL.indexAddr hF rfl rfl (hx.ad (i := k) (by omega)) (by omega) (by omega) rfl ?_
  refine TL.load hF rfl ((hx.up upc).at (i := k) (by omega)) rfl ?_
  refine TL.assign hF rfl rfl ?_
  refine TL.nil ?_
  refine TQ.then_n ?_
  refine T.seq ?_
  refine T.region ?_
  refine TL.move hF rfl rfl ?_
  refine TL.move hF rfl rfl ?_
  refine TL.callV hF (hq _ (List.getElem_mem (by omega)) os) rfl rfl ?_
  refine TL.nil ?_
  refine TQ.then_n ?_
  refine T.cond _ rfl (fun ht15 => ?_) (fun ht15 => ?_)
  ·refine T.region ?_
   refine TL.move hF rfl rfl ?_
   refine TL.move hF rfl rfl ?_
   refine TL.buildSlice hF rfl (cs := #[hc (ps[k]'(by omega))]) (e := 66) (fun w => by kernel_rfl) rfl (fun b18 => ?_)
   have hfl : ((ps.take k).filter q).length ≤ ps.length := Nat.le_trans (List.length_filter_le _ _) (List.length_take_le' _ _)
   refine TL.append hF 1 rfl rfl rfl ho (row_own (cs := [hc (ps[k]'(by omega))]) (e := 66) (by simp)).src rfl rfl (by simp [hc, Value.oneCell']) (by omega) (by omega) rfl (fun a' cap' seg' ho' => ?_)
   have e1 := filt_succ (q := q) (ps := ps) (k := k) (by omega)
   rw [if_pos ht15] at e1
   have e2 : ((ps.take k).filter q).length + 1 = ((ps.take (k + 1)).filter q).length := by rw [e1]; simp
   have e3 : ((ps.take k).filter q).map hc ++ [hc (ps[k]'(by omega))] = ((ps.take (k + 1)).filter q).map hc := by rw [e1]; simp
   rw [e2, e3] at ho'
   rw [e2]
   refine TL.assign hF rfl rfl ?_
   refine TL.nil ?_
   refine TQ.block_n ?_
   refine TQ.then_n ?_
   refine T.region ?_
   refine TL.add hF rfl rfl (by omega) (by omega) rfl ?_
   refine TL.move hF rfl rfl ?_
   refine TL.nil ?_
   refine TQ.pop ?_
   refine TQ.round (k + 1, a', cap', seg') ⟨by dsimp only; omega, ho'⟩ (by dsimp only; omega) ⟨rfl, rfl, rfl, rfl, rfl, trivial⟩ rfl
  ·refine T.skip ?_
   refine TQ.block_n ?_
   refine TQ.then_n ?_
   refine T.region ?_
   refine TL.add hF rfl rfl (by omega) (by omega) rfl ?_
   refine TL.move hF rfl rfl ?_
   refine TL.nil ?_
   have e1 := filt_succ (q := q) (ps := ps) (k := k) (by omega)
   rw [if_neg (by rw [ht15]; simp), List.append_nil] at e1
   refine TQ.round (k + 1, oa, oc, os) ⟨by dsimp only; omega, by dsimp only; rw [e1]; exact ho⟩ (by dsimp only; omega) ⟨rfl, congrArg (fun l : List HL => some (Value.slice oa l.length oc)) e1.symm, rfl, rfl, rfl, trivial⟩ rfl
 ·refine T.exit ?_
  refine TQ.then_x ?_
  refine TQ.then_x ?_
  refine TQ.block_x ?_
  refine TQ.then_n ?_
  refine T.seq ?_
  refine T.region ?_
  refine TL.move hF rfl rfl ?_
  refine TL.assign hF rfl rfl ?_
  refine TL.nil ?_
  refine TQ.then_n ?_
  refine T.ret ?_
  refine TQ.rets [4] _ rfl rfl rfl ?_
  have e : ps.take k = ps := List.take_of_length_le (by omega)
  rw [e] at ho
  exact ⟨oa, oc, os, by show Value.slice oa ((ps.take k).filter q).length oc = _; rw [e], ho, rfl⟩
end Go.Proofs.YteimjjpigohnhaaGreat
/- What is outer; what is beyond; lists as numbers. -/
namespace Go.Proofs.YteimjjpigohnhaaGreat
open Go.Sl
variable {S : Nat → Prop} {w0 : World} {η : Heap}
/-- Of these lists those to which no other one lies so. -/
def outP (le : Tm → Tm → Bool) (ps : List HL) : List HL := ps.filter fun p => !(ps.any fun o => le o.2.1 p.2.1 && !decide (o.2.1 = p.2.1))
theorem tx_outP (le : Tm → Tm → Bool) (ps : List HL) : tx (outP le ps) = (tx ps).filter fun t => (tx ps).all fun o => decide (o = t) || !le o t := by
 unfold outP tx
 rw [List.filter_map]
 congr 1
 apply List.filter_congr
 intro p _
 rw [Bool.eq_iff_iff]
 simp only [Bool.not_eq_true', List.any_eq_false, Function.comp, List.all_eq_true, List.mem_map, forall_exists_index, and_imp, forall_apply_eq_imp_iff₂, Bool.and_eq_true, Bool.or_eq_true, decide_eq_true_eq, decide_eq_false_iff_not]
 constructor
 ·intro h o ho
  have h2 := h o ho
  by_cases e : o.2.1 = p.2.1
  ·exact .inl e
  ·right
   cases hl : le o.2.1 p.2.1 with
   | false => rfl
   | true => exact absurd ⟨hl, e⟩ h2
 ·rintro h o ho ⟨h1, h2⟩
  rcases h o ho with e | e
  ·exact h2 e
  ·rw [h1] at e; cases e
theorem tx_outer {le : Tm → Tm → Bool} {ps : List HL} {l : List Tm} (h : tx ps = sortT l) : tx (outP le ps) = outT le l := by rw [tx_outP, h]; rfl
set_option maxHeartbeats 2000000 in
theorem out1E {bR bT : Nat} {p o : HL} (hR : [(bR, Obj.cells #[.func (.func 68) #[] #[]] 79 (0, 0))] ∈ η) (hT : [(bT, Obj.cells #[hc p] 66 (0, 0))] ∈ η) (hx : Row S w0 η p.1 (ints p.2.1)) (hy : Row S w0 η o.1 (ints o.2.1)) (hl : o.2.1.length = p.2.1.length) (hb : o.2.1.length < 2 ^ 63) :
  Rt Tryz.prog 124 [hc o, ptr bR, ptr bT].toArray S w0 η (fun v η' => v = .bool (tle o.2.1 p.2.1 && !decide (o.2.1 = p.2.1)) ∧ η' = η) := by
 have hF := open_wide
 refine Rt.of (fn := Tryz.f124) Tryz.func124 rfl rfl ?_
 refine T.seq ?_
 refine T.region ?_
 refine TL.assign hF rfl rfl ?_
 refine TL.nil ?_
 refine TQ.then_n ?_
 refine T.seq ?_
 refine T.region ?_
 refine TL.fieldAddr hF rfl rfl ?_
 refine TL.load hF rfl (own_mem hR rfl) rfl ?_
 refine TL.move hF rfl rfl ?_
 refine TL.load hF rfl (own_mem hT rfl) rfl ?_
 refine TL.callV hF (early_fn hy hx hl (by omega)) rfl rfl ?_
 refine TL.move hF rfl rfl ?_
 refine TL.gb (t := 10) rfl (fun g1_10 => ?_) (fun g1_10 => ?_)
 ·refine TL.on rfl rfl rfl g1_10 ?_
  refine TL.move hF rfl rfl ?_
  refine TL.on rfl rfl rfl g1_10 ?_
  refine TL.load hF rfl (own_mem hT rfl) rfl ?_
  refine TL.on rfl rfl rfl g1_10 ?_
  refine TL.callV hF (SEqual_fn hy hx (by omega)) rfl rfl ?_
  refine TL.on rfl rfl rfl g1_10 ?_
  refine TL.not hF rfl rfl ?_
  refine TL.pickT hF rfl g1_10 rfl rfl ?_
  refine TL.assign hF rfl rfl ?_
  refine TL.nil ?_
  refine TQ.then_n ?_
  refine T.ret ?_
  refine TQ.rets [4] _ rfl rfl rfl ?_
  exact ⟨by simp only [g1_10, Bool.true_and]; rfl, rfl⟩
 ·refine TL.off hF rfl rfl rfl g1_10 rfl ?_
  refine TL.off hF rfl rfl rfl g1_10 rfl ?_
  refine TL.off hF rfl rfl rfl g1_10 rfl ?_
  refine TL.off hF rfl rfl rfl g1_10 rfl ?_
  refine TL.pickF hF rfl g1_10 rfl rfl ?_
  refine TL.assign hF rfl rfl ?_
  refine TL.nil ?_
  refine TQ.then_n ?_
  refine T.ret ?_
  refine TQ.rets [4] _ rfl rfl rfl ?_
  exact ⟨by simp only [g1_10, Bool.false_and]; rfl, rfl⟩
set_option maxHeartbeats 2000000 in
theorem out2E {bL bR : Nat} {a : Option Addr} {ps : List HL} {c : Nat} {p : HL} (hL : [(bL, Obj.cells #[.slice a ps.length c] 71 (0, 0))] ∈ η) (hR : [(bR, Obj.cells #[.func (.func 68) #[] #[]] 79 (0, 0))] ∈ η) (hx : LL S w0 η a ps) (hp : p ∈ ps) (hl : ps.length < 2 ^ 63) {w : Nat} (hw : ∀ p ∈ ps, p.2.1.length = w) (hw2 : w < 2 ^ 63) :
  Rt Tryz.prog 122 [hc p, ptr bL, ptr bR].toArray S w0 η (fun v η' => v = .bool (!(ps.any fun o => tle o.2.1 p.2.1 && !decide (o.2.1 = p.2.1))) ∧ η' = η) := by
 have hF := open_wide
 refine Rt.of (fn := Tryz.f122) Tryz.func122 rfl rfl ?_
 refine T.seq ?_
 refine T.region ?_
 refine TL.box hF rfl rfl (fun b3 => ?_)
 refine TL.assign hF rfl rfl ?_
 refine TL.nil ?_
 refine TQ.then_n ?_
 refine T.seq ?_
 refine T.region ?_
 refine TL.load hF rfl ((own_mem hL rfl).up upc) rfl ?_
 refine TL.makeFunc hF rfl rfl rfl ?_
 refine TL.callV hF (ContainsFunc_fn (fun o => tle o.2.1 p.2.1 && !decide (o.2.1 = p.2.1)) (hx.up upc) hl (fun o ho => out1E (p := p) (o := o) (List.mem_cons_of_mem _ hR) List.mem_cons_self ((hx.item p hp).up upc) ((hx.item o ho).up upc) ((hw o ho).trans (hw p hp).symm) (by rw [hw o ho]; exact hw2))) rfl rfl ?_
 refine TL.not hF rfl rfl ?_
 refine TL.assign hF rfl rfl ?_
 refine TL.nil ?_
 refine TQ.then_n ?_
 refine T.ret ?_
 refine TQ.pop ?_
 refine TQ.rets [4] _ rfl rfl rfl ?_
 exact ⟨rfl, rfl⟩
set_option maxHeartbeats 2000000 in
theorem outerE {a : Option Addr} {ps : List HL} {c : Nat} (hx : LL S w0 η a ps) (hl : ps.length < 1099511627776) {w : Nat} (hw : ∀ p ∈ ps, p.2.1.length = w) (hw2 : w < 2 ^ 63) :
  Rt Tryz.prog 78 [.slice a ps.length c, .agg #[.func (.func 68) #[] #[]]].toArray S w0 η (fun v η' => ∃ a' cap seg, v = .slice a' (outP tle ps).length cap ∧ OSl 66 1 (.slice a' (outP tle ps).length cap) (outP tle ps).length ((outP tle ps).map hc) seg ∧ η' = seg :: η) := by
 have hF := open_wide
 refine Rt.of (fn := Tryz.f78) Tryz.func78 rfl rfl ?_
 refine T.seq ?_
 refine T.region ?_
 refine TL.box hF rfl rfl (fun b2 => ?_)
 refine TL.box hF rfl rfl (fun b3 => ?_)
 refine TL.assign hF rfl rfl ?_
 refine TL.nil ?_
 refine TQ.then_n ?_
 refine T.seq ?_
 refine T.region ?_
 refine TL.load hF rfl (by first | exact At.own' (i := 0) rfl rfl | exact At.own' (i := 1) rfl rfl | exact At.own' (i := 2) rfl rfl | exact At.own' (i := 3) rfl rfl | exact At.own' (i := 4) rfl rfl | exact At.own' (i := 5) rfl rfl | exact At.own' (i := 6) rfl rfl | exact At.own' (i := 7) rfl rfl | exact At.own' (i := 8) rfl rfl | exact At.own' (i := 9) rfl rfl | exact At.own' (i := 10) rfl rfl | exact At.own' (i := 11) rfl rfl | exact At.own' (i := 12) rfl rfl) rfl ?_
 refine TL.makeFunc hF rfl rfl rfl ?_
 refine TL.call hF (sifted_fn (fun p => !(ps.any fun o => tle o.2.1 p.2.1 && !decide (o.2.1 = p.2.1))) (hx.up (fun z hz => by simp [hz])) hl (fun p hp s => out2E (bL := b2) (bR := b3) (a := a) (c := c) (by simp [Value.cells]) (by simp [Value.cells]) (hx.up (fun z hz => by simp [hz])) hp (by omega) hw hw2)) rfl rfl ?_
 rintro _ _ ⟨a', cap, sg, rfl, ho, rfl⟩
 refine TL.assign hF rfl rfl ?_
 refine TL.nil ?_
 refine TQ.then_n ?_
 refine T.ret ?_
 refine TQ.hsub (sg :: η) (List.Sublist.cons_cons _ (List.Sublist.cons _ (List.sublist_cons_self _ _))) ?_
 refine TQ.rets [4] _ rfl rfl rfl ?_
 exact ⟨a', cap, sg, rfl, ho, rfl⟩
set_option maxHeartbeats 2000000 in
theorem out1L {bR bT : Nat} {p o : HL} (hR : [(bR, Obj.cells #[.func (.func 126) #[] #[]] 79 (0, 0))] ∈ η) (hT : [(bT, Obj.cells #[hc p] 66 (0, 0))] ∈ η) (hx : Row S w0 η p.1 (ints p.2.1)) (hy : Row S w0 η o.1 (ints o.2.1)) (hl : o.2.1.length = p.2.1.length) (hb : o.2.1.length < 2 ^ 63) :
  Rt Tryz.prog 124 [hc o, ptr bR, ptr bT].toArray S w0 η (fun v η' => v = .bool ((fun o t => tle t o) o.2.1 p.2.1 && !decide (o.2.1 = p.2.1)) ∧ η' = η) := by
 have hF := open_wide
 refine Rt.of (fn := Tryz.f124) Tryz.func124 rfl rfl ?_
 refine T.seq ?_
 refine T.region ?_
 refine TL.assign hF rfl rfl ?_
 refine TL.nil ?_
 refine TQ.then_n ?_
 refine T.seq ?_
 refine T.region ?_
 refine TL.fieldAddr hF rfl rfl ?_
 refine TL.load hF rfl (own_mem hR rfl) rfl ?_
 refine TL.move hF rfl rfl ?_
 refine TL.load hF rfl (own_mem hT rfl) rfl ?_
 refine TL.callV hF (late_fn hy hx hl (by omega)) rfl rfl ?_
 refine TL.move hF rfl rfl ?_
 refine TL.gb (t := 10) rfl (fun g1_10 => ?_) (fun g1_10 => ?_)
 ·refine TL.on rfl rfl rfl g1_10 ?_
  refine TL.move hF rfl rfl ?_
  refine TL.on rfl rfl rfl g1_10 ?_
  refine TL.load hF rfl (own_mem hT rfl) rfl ?_
  refine TL.on rfl rfl rfl g1_10 ?_
  refine TL.callV hF (SEqual_fn hy hx (by omega)) rfl rfl ?_
  refine TL.on rfl rfl rfl g1_10 ?_
  refine TL.not hF rfl rfl ?_
  refine TL.pickT hF rfl g1_10 rfl rfl ?_
  refine TL.assign hF rfl rfl ?_
  refine TL.nil ?_
  refine TQ.then_n ?_
  refine T.ret ?_
  refine TQ.rets [4] _ rfl rfl rfl ?_
  exact ⟨by simp only [g1_10, Bool.true_and]; rfl, rfl⟩
 ·refine TL.off hF rfl rfl rfl g1_10 rfl ?_
  refine TL.off hF rfl rfl rfl g1_10 rfl ?_
  refine TL.off hF rfl rfl rfl g1_10 rfl ?_
  refine TL.off hF rfl rfl rfl g1_10 rfl ?_
  refine TL.pickF hF rfl g1_10 rfl rfl ?_
  refine TL.assign hF rfl rfl ?_
  refine TL.nil ?_
  refine TQ.then_n ?_
  refine T.ret ?_
  refine TQ.rets [4] _ rfl rfl rfl ?_
  exact ⟨by simp only [g1_10, Bool.false_and]; rfl, rfl⟩
set_option maxHeartbeats 2000000 in
theorem out2L {bL bR : Nat} {a : Option Addr} {ps : List HL} {c : Nat} {p : HL} (hL : [(bL, Obj.cells #[.slice a ps.length c] 71 (0, 0))] ∈ η) (hR : [(bR, Obj.cells #[.func (.func 126) #[] #[]] 79 (0, 0))] ∈ η) (hx : LL S w0 η a ps) (hp : p ∈ ps) (hl : ps.length < 2 ^ 63) {w : Nat} (hw : ∀ p ∈ ps, p.2.1.length = w) (hw2 : w < 2 ^ 63) :
  Rt Tryz.prog 122 [hc p, ptr bL, ptr bR].toArray S w0 η (fun v η' => v = .bool (!(ps.any fun o => (fun o t => tle t o) o.2.1 p.2.1 && !decide (o.2.1 = p.2.1))) ∧ η' = η) := by
 have hF := open_wide
 refine Rt.of (fn := Tryz.f122) Tryz.func122 rfl rfl ?_
 refine T.seq ?_
 refine T.region ?_
 refine TL.box hF rfl rfl (fun b3 => ?_)
 refine TL.assign hF rfl rfl ?_
 refine TL.nil ?_
 refine TQ.then_n ?_
 refine T.seq ?_
 refine T.region ?_
 refine TL.load hF rfl ((own_mem hL rfl).up upc) rfl ?_
 refine TL.makeFunc hF rfl rfl rfl ?_
 refine TL.callV hF (ContainsFunc_fn (fun o => (fun o t => tle t o) o.2.1 p.2.1 && !decide (o.2.1 = p.2.1)) (hx.up upc) hl (fun o ho => out1L (p := p) (o := o) (List.mem_cons_of_mem _ hR) List.mem_cons_self ((hx.item p hp).up upc) ((hx.item o ho).up upc) ((hw o ho).trans (hw p hp).symm) (by rw [hw o ho]; exact hw2))) rfl rfl ?_
 refine TL.not hF rfl rfl ?_
 refine TL.assign hF rfl rfl ?_
 refine TL.nil ?_
 refine TQ.then_n ?_
 refine T.ret ?_
 refine TQ.pop ?_
 refine TQ.rets [4] _ rfl rfl rfl ?_
 exact ⟨rfl, rfl⟩
set_option maxHeartbeats 2000000 in
theorem outerL {a : Option Addr} {ps : List HL} {c : Nat} (hx : LL S w0 η a ps) (hl : ps.length < 1099511627776) {w : Nat} (hw : ∀ p ∈ ps, p.2.1.length = w) (hw2 : w < 2 ^ 63) :
  Rt Tryz.prog 78 [.slice a ps.length c, .agg #[.func (.func 126) #[] #[]]].toArray S w0 η (fun v η' => ∃ a' cap seg, v = .slice a' (outP (fun o t => tle t o) ps).length cap ∧ OSl 66 1 (.slice a' (outP (fun o t => tle t o) ps).length cap) (outP (fun o t => tle t o) ps).length ((outP (fun o t => tle t o) ps).map hc) seg ∧ η' = seg :: η) := by
 have hF := open_wide
 refine Rt.of (fn := Tryz.f78) Tryz.func78 rfl rfl ?_
 refine T.seq ?_
 refine T.region ?_
 refine TL.box hF rfl rfl (fun b2 => ?_)
 refine TL.box hF rfl rfl (fun b3 => ?_)
 refine TL.assign hF rfl rfl ?_
 refine TL.nil ?_
 refine TQ.then_n ?_
 refine T.seq ?_
 refine T.region ?_
 refine TL.load hF rfl (by first | exact At.own' (i := 0) rfl rfl | exact At.own' (i := 1) rfl rfl | exact At.own' (i := 2) rfl rfl | exact At.own' (i := 3) rfl rfl | exact At.own' (i := 4) rfl rfl | exact At.own' (i := 5) rfl rfl | exact At.own' (i := 6) rfl rfl | exact At.own' (i := 7) rfl rfl | exact At.own' (i := 8) rfl rfl | exact At.own' (i := 9) rfl rfl | exact At.own' (i := 10) rfl rfl | exact At.own' (i := 11) rfl rfl | exact At.own' (i := 12) rfl rfl) rfl ?_
 refine TL.makeFunc hF rfl rfl rfl ?_
 refine TL.call hF (sifted_fn (fun p => !(ps.any fun o => (fun o t => tle t o) o.2.1 p.2.1 && !decide (o.2.1 = p.2.1))) (hx.up (fun z hz => by simp [hz])) hl (fun p hp s => out2L (bL := b2) (bR := b3) (a := a) (c := c) (by simp [Value.cells]) (by simp [Value.cells]) (hx.up (fun z hz => by simp [hz])) hp (by omega) hw hw2)) rfl rfl ?_
 rintro _ _ ⟨a', cap, sg, rfl, ho, rfl⟩
 refine TL.assign hF rfl rfl ?_
 refine TL.nil ?_
 refine TQ.then_n ?_
 refine T.ret ?_
 refine TQ.hsub (sg :: η) (List.Sublist.cons_cons _ (List.Sublist.cons _ (List.sublist_cons_self _ _))) ?_
 refine TQ.rets [4] _ rfl rfl rfl ?_
 exact ⟨a', cap, sg, rfl, ho, rfl⟩
set_option maxHeartbeats 2000000 in
theorem bey1 {bT : Nat} {p o : HL} (hT : [(bT, Obj.cells #[hc p] 66 (0, 0))] ∈ η) (hx : Row S w0 η p.1 (ints p.2.1)) (hy : Row S w0 η o.1 (ints o.2.1)) (hl : o.2.1.length = p.2.1.length) (hb : o.2.1.length < 2 ^ 63) :
  Rt Tryz.prog 127 [hc o, ptr bT].toArray S w0 η (fun v η' => v = .bool (tle o.2.1 p.2.1) ∧ η' = η) := by
 have hF := open_wide
 refine Rt.of (fn := Tryz.f127) Tryz.func127 rfl rfl ?_
 refine T.seq ?_
 refine T.region ?_
 refine TL.assign hF rfl rfl ?_
 refine TL.nil ?_
 refine TQ.then_n ?_
 refine T.seq ?_
 refine T.region ?_
 refine TL.move hF rfl rfl ?_
 refine TL.load hF rfl (own_mem hT rfl) rfl ?_
 refine TL.callV hF (early_fn hy hx hl (by omega)) rfl rfl ?_
 refine TL.assign hF rfl rfl ?_
 refine TL.nil ?_
 refine TQ.then_n ?_
 refine T.ret ?_
 refine TQ.rets [3] _ rfl rfl rfl ?_
 exact ⟨rfl, rfl⟩
set_option maxHeartbeats 2000000 in
theorem beyond_fn {a b : Option Addr} {ps : List HL} {c d : Nat} {t : List Int} (hx : LL S w0 η a ps) (ht : Row S w0 η b (ints t)) (hl : ps.length < 2 ^ 63) (hw : ∀ p ∈ ps, p.2.1.length = t.length) (hw2 : t.length < 2 ^ 63) :
  Rt Tryz.prog 84 [.slice a ps.length c, .slice b t.length d].toArray S w0 η (fun v η' => v = .bool (pastT (tx ps) t) ∧ η' = η) := by
 have hF := open_wide
 refine Rt.of (fn := Tryz.f84) Tryz.func84 rfl rfl ?_
 refine T.seq ?_
 refine T.region ?_
 refine TL.box hF rfl rfl (fun b3 => ?_)
 refine TL.assign hF rfl rfl ?_
 refine TL.nil ?_
 refine TQ.then_n ?_
 refine T.seq ?_
 refine T.region ?_
 refine TL.move hF rfl rfl ?_
 refine TL.makeFunc hF rfl rfl rfl ?_
 refine TL.callV hF (ContainsFunc_fn (fun o => tle o.2.1 t) (hx.up upc) hl (fun o ho => bey1 (p := (b, t, d)) (o := o) List.mem_cons_self (ht.up upc) ((hx.item o ho).up upc) (hw o ho) (by rw [hw o ho]; exact hw2))) rfl rfl ?_
 refine TL.assign hF rfl rfl ?_
 refine TL.nil ?_
 refine TQ.then_n ?_
 refine T.ret ?_
 refine TQ.pop ?_
 refine TQ.rets [4] _ rfl rfl rfl ?_
 exact ⟨by unfold pastT tx; rw [List.any_map]; rfl, rfl⟩
set_option maxHeartbeats 2000000 in
theorem earlier_fn  :
  Rt Tryz.prog 79 [].toArray S w0 η (fun v η' => v = .agg #[.func (.func 68) #[] #[]] ∧ η' = η) := by
 have hF := open_wide
 refine Rt.of (fn := Tryz.f79) Tryz.func79 rfl rfl ?_
 refine T.seq ?_
 refine T.region ?_
 refine TL.alloc hF rfl (fun b0 => ?_)
 refine TL.nil ?_
 refine TQ.then_n ?_
 refine T.seq ?_
 refine T.region ?_
 refine TL.build hF rfl (r := .agg #[.func (.func 68) #[] #[]]) (fun w => by kernel_rfl) rfl ?_
 refine TL.storeAI hF [.func (.func 68) #[] #[]] 0 rfl rfl rfl rfl (by simp [Value.oneCell']) (by simp [Value.cells]) ?_
 refine TL.nil ?_
 refine TQ.then_n ?_
 refine T.ret ?_
 refine TQ.retC [.func (.func 68) #[] #[]] η rfl rfl rfl (own_list (i := 0) (cs := [.func (.func 68) #[] #[]]) rfl) (List.sublist_cons_self _ _) ⟨rfl, rfl⟩
set_option maxHeartbeats 2000000 in
theorem later_fn  :
  Rt Tryz.prog 81 [].toArray S w0 η (fun v η' => v = .agg #[.func (.func 126) #[] #[]] ∧ η' = η) := by
 have hF := open_wide
 refine Rt.of (fn := Tryz.f81) Tryz.func81 rfl rfl ?_
 refine T.seq ?_
 refine T.region ?_
 refine TL.alloc hF rfl (fun b0 => ?_)
 refine TL.nil ?_
 refine TQ.then_n ?_
 refine T.seq ?_
 refine T.region ?_
 refine TL.build hF rfl (r := .agg #[.func (.func 126) #[] #[]]) (fun w => by kernel_rfl) rfl ?_
 refine TL.storeAI hF [.func (.func 126) #[] #[]] 0 rfl rfl rfl rfl (by simp [Value.oneCell']) (by simp [Value.cells]) ?_
 refine TL.nil ?_
 refine TQ.then_n ?_
 refine T.ret ?_
 refine TQ.retC [.func (.func 126) #[] #[]] η rfl rfl rfl (own_list (i := 0) (cs := [.func (.func 126) #[] #[]]) rfl) (List.sublist_cons_self _ _) ⟨rfl, rfl⟩
set_option maxHeartbeats 2000000 in
theorem numbers_fn {a : Option Addr} {ps : List HL} {c : Nat} (hx : LL S w0 η a ps) (hl : ps.length < 1099511627776) (hlx : ∀ p ∈ ps, p.2.1.length < 1099511627776) :
  Rt Tryz.prog 76 [.slice a ps.length c].toArray S w0 η (fun v η' => ∃ a' cap outs og, v = .slice a' outs.length cap ∧ OL 22 (.slice a' outs.length cap) outs og ∧ outs.map (fun t => t.1.2.1) = tx ps ∧ η' = og :: (outs.reverse.map (·.2) ++ η)) := by
 have hF := open_wide
 refine Rt.of (fn := Tryz.f76) Tryz.func76 rfl rfl ?_
 refine T.seq ?_
 refine T.region ?_
 refine TL.assign hF rfl rfl ?_
 refine TL.nil ?_
 refine TQ.then_n ?_
 refine T.seq ?_
 refine T.seq ?_
 refine T.region ?_
 refine TL.move hF rfl rfl ?_
 refine TL.len hF rfl rfl ?_
 refine TL.move hF rfl rfl ?_
 refine TL.nil ?_
 refine TQ.then_n ?_
 refine T.block ?_
 refine T.hnil ?_
 refine T.loop (ι := Nat × Option Addr × Nat × List (HL × Seg) × Seg) (fun i => i.1 ≤ ps.length ∧ i.2.2.2.1.map (fun t => t.1.2.1) = (tx ps).take i.1 ∧ OL 22 (.slice i.2.1 i.2.2.2.1.length i.2.2.1) i.2.2.2.1 i.2.2.2.2) (fun i => [(2, .slice i.2.1 i.2.2.2.1.length i.2.2.1), (5, .slice a ps.length c), (6, .int .i64 (ps.length : Int)), (7, .int .i64 (i.1 : Int))]) (fun i => i.2.2.2.2 :: (i.2.2.2.1.reverse.map (·.2) ++ η)) (fun i => ps.length - i.1) (0, none, 0, [], []) ⟨Nat.zero_le _, by simp, ⟨OSl.nil _ _, fun t ht => by simp at ht⟩⟩ ⟨rfl, rfl, rfl, rfl, trivial⟩ rfl ?_
 rintro ⟨k, oa, oc, outs, og⟩ ⟨hk, htx, ho⟩
 dsimp only at hk htx ho
 have hol : outs.length = k := by have := congrArg List.length htx; simp [tx_len] at this; omega
 refine T.seq ?_
 refine T.region ?_
 refine TL.bin hF rfl rfl rfl rfl ?_
 refine TL.nil ?_
 refine TQ.then_n ?_
 refine T.seq ?_
 first | refine T.cond_d rfl (fun ht8 => ?_) (fun ht8 => ?_) | refine T.cond _ rfl (fun ht8 => ?_) (fun ht8 => ?_)
 ·refine T.skip ?_
  refine TQ.then_n ?_
  refine T.seq ?_
  refine T.block ?_
  refine T.seq ?_
  refine T.region ?_
  refine TL.indexAddr hF rfl rfl (hx.ad (i := k) (by omega)) (by omega) (by omega) rfl ?_
  refine TL.load hF rfl ((hx.up (fun z hz => by simp [hz])).at (i := k) (by omega)) rfl ?_
  refine TL.assign hF rfl rfl ?_
  refine TL.nil ?_
  refine TQ.then_n ?_
  refine T.region ?_
  refine TL.move hF rfl rfl ?_
  refine TL.move hF rfl rfl ?_
  refine TL.call hF (CloneT_fn ((hx.up (fun z hz => by simp [hz])).it (i := k) (by omega)) (by simp) (ints1 _) (hlx _ (List.getElem_mem _))) rfl rfl ?_
  rintro _ _ ⟨a1, c1, s1, rfl, ho1, rfl⟩
  refine TL.buildSlice hF rfl (cs := #[hc (a1, (ps[k]'(by omega)).2.1, c1)]) (e := 22) (fun w => by kernel_rfl) rfl (fun b14 => ?_)
  refine TL.append hF 2 rfl rfl rfl ho.o (row_own (cs := [hc (a1, (ps[k]'(by omega)).2.1, c1)]) (e := 22) (by simp)).src rfl rfl (by simp [hc, Value.oneCell']) (by omega) (by omega) rfl (fun a' cap' seg' ho' => ?_)
  refine TL.assign hF rfl rfl ?_
  refine TL.nil ?_
  refine TQ.block_n ?_
  refine TQ.then_n ?_
  refine T.region ?_
  refine TL.add hF rfl rfl (by omega) (by omega) rfl ?_
  refine TL.move hF rfl rfl ?_
  refine TL.nil ?_
  have e4 : outs.length + 1 = (outs ++ [(((a1, (ps[k]'(by omega)).2.1, c1) : HL), s1)]).length := by simp
  refine TQ.pick [2, 1] [[(b14, Obj.cells #[hc (a1, (ps[k]'(by omega)).2.1, c1)] 22 (0, 0))], s1, seg'] rfl rfl rfl ?_
  refine TQ.round (k + 1, a', cap', outs ++ [((a1, (ps[k]'(by omega)).2.1, c1), s1)], seg') ⟨by dsimp only; omega, ?_, ⟨?_, ?_⟩⟩ (by dsimp only; omega) ⟨congrArg (fun n : Nat => some (Value.slice a' n cap')) e4, rfl, rfl, rfl, trivial⟩ (by simp [pickL])
  ·dsimp only
   rw [List.map_append, htx, List.take_succ_eq_append_getElem (by rw [tx_len]; omega), tx_get (by omega)]; simp
  ·dsimp only
   rw [← e4, List.map_append]; exact ho'
  ·intro t ht
   rcases List.mem_append.1 ht with h | h
   ·exact ho.i t h
   ·rw [List.mem_singleton.1 h]; exact ho1
 ·refine T.exit ?_
  refine TQ.then_x ?_
  refine TQ.then_x ?_
  refine TQ.block_x ?_
  refine TQ.then_n ?_
  refine T.seq ?_
  refine T.region ?_
  refine TL.move hF rfl rfl ?_
  refine TL.assign hF rfl rfl ?_
  refine TL.nil ?_
  refine TQ.then_n ?_
  refine T.ret ?_
  refine TQ.rets [2] _ rfl rfl rfl ?_
  exact ⟨oa, oc, outs, og, rfl, ho, by rw [htx, List.take_of_length_le (by rw [tx_len]; omega)], rfl⟩
end Go.Proofs.YteimjjpigohnhaaGreat
/- Lists of numbers as times; frontiers. -/
namespace Go.Proofs.YteimjjpigohnhaaGreat
open Go.Sl
variable {S : Nat → Prop} {w0 : World} {η : Heap}
/-- Sorted, each once: the times of a list. -/
theorem srt_sortT {w : Nat} {outs : List (HL × Seg)} {l : List Tm} (hs : Srt outs) (hw : ∀ t ∈ outs, t.1.2.1.length = w) (hn : (outs.map (fun t => t.1.2.1)).Nodup) (hl : ∀ x ∈ l, x.length = w) (hm : ∀ x, x ∈ outs.map (fun t => t.1.2.1) ↔ x ∈ l) : outs.map (fun t => t.1.2.1) = sortT l := by
 refine (sortT_ord hl ?_ hm).symm
 unfold Ord
 rw [List.pairwise_map]
 have hn2 : outs.Pairwise fun x y => x.1.2.1 ≠ y.1.2.1 := List.pairwise_map.1 hn
 refine List.Pairwise.imp_of_mem (R := fun x y : HL × Seg => ¬ cmpT y.1.2.1 x.1.2.1 < 0 ∧ x.1.2.1 ≠ y.1.2.1) (fun {x y} hx hy h => ?_) (hs.and hn2)
 rcases lxl_total ((hw x hx).trans (hw y hy).symm) h.2 with q | q
 ·exact q
 ·exact absurd ((cmpT_lt ((hw y hy).trans (hw x hx).symm)).2 q) h.1
/-- What the loop of 'of' keeps. -/
structure OfI (w : Nat) (cs : List HL) (outs : List (HL × Seg)) (m : List (K4 × Bool)) : Prop where
 mem : ∀ x, x ∈ outs.map (fun t => t.1.2.1) ↔ x ∈ tx cs
 nd : (outs.map (fun t => t.1.2.1)).Nodup
 map : ∀ x : Tm, x.length = w → ((mget (keyT x) m).getD false = true ↔ x ∈ tx cs)
 len : ∀ t ∈ outs, t.1.2.1.length = w
theorem OfI.nil (w : Nat) : OfI w [] [] [] := ⟨by simp [tx], by simp, by simp [tx, mget], by simp⟩
theorem OfI.had {w : Nat} {cs : List HL} {outs : List (HL × Seg)} {m : List (K4 × Bool)} (h : OfI w cs outs m) {p : HL} (hp : p.2.1.length = w) (hg : (mget (keyT p.2.1) m).getD false = true) : OfI w (cs ++ [p]) outs m := by
 have hin := (h.map _ hp).1 hg
 have e : ∀ x, x ∈ tx (cs ++ [p]) ↔ x ∈ tx cs := fun x => by
  rw [tx_append, List.mem_append]
  refine ⟨fun q => q.elim id fun q => ?_, .inl⟩
  simp only [tx, List.map_cons, List.map_nil, List.mem_singleton] at q
  rw [q]; exact hin
 exact ⟨fun x => by rw [h.mem, e], h.nd, fun x hx => by rw [h.map x hx, e], h.len⟩
theorem OfI.new {w : Nat} (hw4 : w ≤ 4) {cs : List HL} {outs : List (HL × Seg)} {m : List (K4 × Bool)} (h : OfI w cs outs m) {p q : HL} {s : Seg} (hp : p.2.1.length = w) (hq : q.2.1 = p.2.1) (hg : (mget (keyT p.2.1) m).getD false = false) :
  OfI w (cs ++ [p]) (outs ++ [(q, s)]) (mput (keyT p.2.1) true m) := by
 have hout : p.2.1 ∉ tx cs := fun hc => by have := (h.map _ hp).2 hc; rw [hg] at this; cases this
 have e : ∀ x, x ∈ tx (cs ++ [p]) ↔ x = p.2.1 ∨ x ∈ tx cs := fun x => by
  rw [tx_append, List.mem_append]; simp [tx]; exact ⟨fun h => h.symm, fun h => h.symm⟩
 refine ⟨fun x => ?_, ?_, fun x hx => ?_, fun t ht => ?_⟩
 ·rw [e, List.map_append, List.mem_append, h.mem]; simp [hq]; exact ⟨fun h => h.symm, fun h => h.symm⟩
 ·rw [List.map_append, List.nodup_append]
  refine ⟨h.nd, by simp, fun a ha b hb q => ?_⟩
  simp only [List.map_cons, List.map_nil, List.mem_singleton, hq] at hb
  rw [q, hb, h.mem] at ha; exact hout ha
 ·rw [e, mget_mput]
  by_cases hk : keyT x = keyT p.2.1
  ·have : x = p.2.1 := keyT_inj (hx.trans hp.symm) (by omega) hk
   rw [if_pos hk]; simp [this]
  ·rw [if_neg hk, h.map x hx]
   have : x ≠ p.2.1 := fun q => hk (by rw [q])
   simp [this]
 ·rcases List.mem_append.1 ht with q | q
  ·exact h.len t q
  ·rw [List.mem_singleton.1 q]; exact hq ▸ hp
structure OfS where
 oa : Option Addr
 oc : Nat
 outs : List (HL × Seg)
 og : Seg
 m : List (K4 × Bool)
 es : Array MapEntry
 clock : Nat
set_option maxHeartbeats 2000000 in
theorem of_fn {a : Option Addr} {gs : List GL} {c : Nat} (hx : L3 S w0 η a gs) (hl : gs.length < 50) (hgl : ∀ g ∈ gs, g.2.1.length < 2 ^ 63) (hcl : (catG gs).length < 1073741824) {w : Nat} (hw : ∀ p ∈ catG gs, p.2.1.length = w) (hw4 : w ≤ 4) :
  Rt Tryz.prog 75 [.slice a gs.length c].toArray S w0 η (fun v η' => ∃ a' cap ps segs, v = .agg #[.slice a' ps.length cap] ∧ tx ps = sortT (tx (catG gs)) ∧ η' = segs ++ η ∧ LL S w0 segs a' ps ∧ ps.length ≤ cap) := by
 have hF := open_wide
 refine Rt.of (fn := Tryz.f75) Tryz.func75 rfl rfl ?_
 refine T.seq ?_
 refine T.region ?_
 refine TL.alloc hF rfl (fun b2 => ?_)
 refine TL.nil ?_
 refine TQ.then_n ?_
 refine T.seq ?_
 refine T.region ?_
 refine TL.makeMap hF rfl (fun b10 => ?_)
 refine TL.assign hF rfl rfl ?_
 refine TL.nil ?_
 refine TQ.then_n ?_
 refine T.seq ?_
 refine T.region ?_
 refine TL.hperm ([(b2, Obj.cells #[.slice none 0 0] 73 (0, 0))] :: [(b10, Obj.map #[] 0)] :: η) (List.Perm.swap _ _ _) ?_
 refine TL.hperm ([(b10, Obj.map #[] 0)] :: [(b2, Obj.cells #[.slice none 0 0] 73 (0, 0))] :: η) (List.Perm.swap _ _ _) ?_
 refine TL.assign hF rfl rfl ?_
 refine TL.nil ?_
 refine TQ.then_n ?_
 refine T.seq ?_
 refine T.seq ?_
 refine T.region ?_
 refine TL.move hF rfl rfl ?_
 refine TL.len hF rfl rfl ?_
 refine TL.move hF rfl rfl ?_
 refine TL.nil ?_
 refine TQ.then_n ?_
 refine T.block ?_
 refine T.heap (η' := [(b10, Obj.map #[] 0)] :: [(b2, Obj.cells #[.slice none 0 0] 73 (0, 0))] :: η) rfl ?_
 refine T.hnil ?_
 refine T.hperm ([(b10, Obj.map #[] 0)] :: [(b2, Obj.cells #[.slice none 0 0] 73 (0, 0))] :: [] :: η) ((List.Perm.cons _ (List.Perm.swap _ _ _)).trans (List.Perm.swap _ _ _)) ?_
 refine T.loop (ι := Nat × OfS) (fun i => match i with | (k, s) => k ≤ gs.length ∧ OfI w (catG (gs.take k)) s.outs s.m ∧ MObj KT Value.bool s.m s.es s.clock ∧ OL 66 (.slice s.oa s.outs.length s.oc) s.outs s.og ∧ s.outs.length ≤ (catG (gs.take k)).length) (fun i => match i with | (k, s) => [(2, ptr b2), (3, .map (some b10)), (4, .slice s.oa s.outs.length s.oc), (11, .slice a gs.length c), (12, .int .i64 (gs.length : Int)), (13, .int .i64 (k : Int))]) (fun i => match i with | (k, s) => [(b10, Obj.map s.es s.clock)] :: [(b2, Obj.cells #[.slice none 0 0] 73 (0, 0))] :: s.og :: (s.outs.reverse.map (·.2) ++ η)) (fun i => gs.length - i.1) (0, ⟨none, 0, [], [], [], #[], 0⟩) ⟨Nat.zero_le _, by simpa [catG] using OfI.nil w, MObj.nil _ _, ⟨OSl.nil _ _, fun t ht => by simp at ht⟩, by simp⟩ ⟨rfl, rfl, rfl, rfl, rfl, rfl, trivial⟩ rfl ?_
 rintro ⟨k, s⟩ ⟨hk, hinv, hmo, hol, holn⟩
 have hcle := catG_le gs k
 refine T.seq ?_
 refine T.region ?_
 refine TL.bin hF rfl rfl rfl rfl ?_
 refine TL.nil ?_
 refine TQ.then_n ?_
 refine T.seq ?_
 first | refine T.cond_d rfl (fun ht14 => ?_) (fun ht14 => ?_) | refine T.cond _ rfl (fun ht14 => ?_) (fun ht14 => ?_)
 ·refine T.skip ?_
  refine TQ.then_n ?_
  refine T.seq ?_
  refine T.block ?_
  refine T.seq ?_
  refine T.region ?_
  refine TL.indexAddr hF rfl rfl (hx.ad (i := k) (by omega)) (by omega) (by omega) rfl ?_
  refine TL.load hF rfl ((hx.up (fun z hz => by simp [hz])).at (i := k) (by omega)) rfl ?_
  refine TL.assign hF rfl rfl ?_
  refine TL.nil ?_
  refine TQ.then_n ?_
  refine T.seq ?_
  refine T.region ?_
  refine TL.move hF rfl rfl ?_
  refine TL.len hF rfl rfl ?_
  refine TL.move hF rfl rfl ?_
  refine TL.nil ?_
  refine TQ.then_n ?_
  refine T.block ?_
  have hkg : k < gs.length := by omega
  have hgk := hgl _ (List.getElem_mem hkg)
  have hit := hx.item _ (List.getElem_mem hkg)
  have hcs := catG_succ hkg
  have hcle1 := catG_le gs (k + 1)
  rw [hcs, List.length_append] at hcle1
  refine T.loop (ι := Nat × OfS) (fun i => match i with | (j, s) => j ≤ gs[k].2.1.length ∧ OfI w (catG (gs.take k) ++ gs[k].2.1.take j) s.outs s.m ∧ MObj KT Value.bool s.m s.es s.clock ∧ OL 66 (.slice s.oa s.outs.length s.oc) s.outs s.og ∧ s.outs.length ≤ (catG (gs.take k) ++ gs[k].2.1.take j).length) (fun i => match i with | (j, s) => [(2, ptr b2), (3, .map (some b10)), (4, .slice s.oa s.outs.length s.oc), (11, .slice a gs.length c), (12, .int .i64 (gs.length : Int)), (13, .int .i64 (k : Int)), (17, .slice gs[k].1 gs[k].2.1.length gs[k].2.2), (18, .int .i64 (gs[k].2.1.length : Int)), (19, .int .i64 (j : Int))]) (fun i => match i with | (j, s) => [(b10, Obj.map s.es s.clock)] :: [(b2, Obj.cells #[.slice none 0 0] 73 (0, 0))] :: s.og :: (s.outs.reverse.map (·.2) ++ η)) (fun i => gs[k].2.1.length - i.1) (0, s) ⟨Nat.zero_le _, by simpa using hinv, hmo, hol, by simpa using holn⟩ ⟨rfl, rfl, rfl, rfl, rfl, rfl, rfl, rfl, rfl, trivial⟩ rfl ?_
  clear hinv hmo hol holn
  rintro ⟨j, s⟩ ⟨hj, hinv, hmo, hol, holn⟩
  refine T.seq ?_
  refine T.region ?_
  refine TL.bin hF rfl rfl rfl rfl ?_
  refine TL.nil ?_
  refine TQ.then_n ?_
  refine T.seq ?_
  first | refine T.cond_d rfl (fun ht20 => ?_) (fun ht20 => ?_) | refine T.cond _ rfl (fun ht20 => ?_) (fun ht20 => ?_)
  ·refine T.skip ?_
   refine TQ.then_n ?_
   refine T.seq ?_
   refine T.block ?_
   refine T.seq ?_
   refine T.region ?_
   refine TL.indexAddr hF rfl rfl (hit.ad (i := j) (by omega)) (by omega) (by omega) rfl ?_
   have hjl : j < gs[k].2.1.length := by omega
   have hpw : (gs[k].2.1[j]).2.1.length = w := hw _ (List.mem_flatMap.2 ⟨_, List.getElem_mem hkg, List.getElem_mem hjl⟩)
   have hlj : (catG (gs.take k) ++ gs[k].2.1.take j).length ≤ (catG gs).length := by rw [List.length_append, List.length_take]; omega
   refine TL.load hF rfl ((hit.up (fun z hz => by simp [hz])).at (i := j) hjl) rfl ?_
   refine TL.assign hF rfl rfl ?_
   refine TL.nil ?_
   refine TQ.then_n ?_
   refine T.seq ?_
   refine T.region ?_
   refine TL.move hF rfl rfl ?_
   refine TL.callV hF (key_fn ((hit.up (fun z hz => by simp [hz])).it hjl) (by omega)) rfl rfl ?_
   refine TL.alloc hF rfl (fun b9 => ?_)
   refine TL.storeAI hF (kcs (gs[k].2.1[j]).2.1) 0 rfl rfl rfl rfl (by simp [Value.oneCell']) (by simp [Value.cells]) ?_
   refine TL.nil ?_
   refine TQ.then_n ?_
   refine T.seq ?_
   refine T.region ?_
   refine TL.move hF rfl rfl ?_
   refine TL.loadA hF (kcs (gs[k].2.1[j]).2.1) rfl rfl (own_list (i := 0) (cs := kcs (gs[k].2.1[j]).2.1) rfl) rfl ?_
   refine TL.lookupB hF (K := KT) (keyT (gs[k].2.1[j]).2.1) rfl rfl (List.mem_cons_of_mem _ List.mem_cons_self) hmo rfl ?_
   refine TL.not hF rfl rfl ?_
   refine TL.nil ?_
   refine TQ.then_n ?_
   refine T.cond _ rfl (fun ht28 => ?_) (fun ht28 => ?_)
   all_goals simp only [Bool.not_eq_true', Bool.not_eq_false'] at ht28
   ·refine T.seq ?_
    refine T.region ?_
    refine TL.move hF rfl rfl ?_
    refine TL.loadA hF (kcs (gs[k].2.1[j]).2.1) rfl rfl (own_list (i := 0) (cs := kcs (gs[k].2.1[j]).2.1) rfl) rfl ?_
    refine TL.mapUpdate hF 1 Value.bool (keyT (gs[k].2.1[j]).2.1) true rfl rfl rfl rfl hmo (fun es2 clock2 hm2 => ?_)
    refine TL.nil ?_
    refine TQ.then_n ?_
    refine T.region ?_
    refine TL.move hF rfl rfl ?_
    refine TL.move hF rfl rfl ?_
    refine TL.call hF (CloneI_fn ((hit.up (fun z hz => by simp [hz])).it hjl) (by simp) (ints1 _) (by omega)) rfl rfl ?_
    rintro _ _ ⟨a1, c1, s1, rfl, ho1, rfl⟩
    refine TL.buildSlice hF rfl (cs := #[hc (a1, (gs[k].2.1[j]).2.1, c1)]) (e := 66) (fun w => by kernel_rfl) rfl (fun b34 => ?_)
    refine TL.append hF 5 rfl rfl rfl hol.o (row_own (cs := [hc (a1, (gs[k].2.1[j]).2.1, c1)]) (e := 66) (by simp)).src rfl rfl (by simp [hc, Value.oneCell']) (by omega) (by omega) rfl (fun a' cap' seg' ho' => ?_)
    refine TL.assign hF rfl rfl ?_
    refine TL.nil ?_
    refine TQ.block_n ?_
    refine TQ.then_n ?_
    refine T.region ?_
    refine TL.add hF rfl rfl (by omega) (by omega) rfl ?_
    refine TL.move hF rfl rfl ?_
    refine TL.nil ?_
    have e4 : s.outs.length + 1 = (s.outs ++ [(((a1, (gs[k].2.1[j]).2.1, c1) : HL), s1)]).length := by simp
    have e5 : catG (gs.take k) ++ gs[k].2.1.take (j + 1) = (catG (gs.take k) ++ gs[k].2.1.take j) ++ [gs[k].2.1[j]] := by rw [List.take_succ_eq_append_getElem hjl, List.append_assoc]
    refine TQ.pick [3, 4, 5, 1] [[(b34, Obj.cells #[hc (a1, (gs[k].2.1[j]).2.1, c1)] 66 (0, 0))], s1, [(b9, Obj.cells (kcs (gs[k].2.1[j]).2.1).toArray 112 (0, 0))], [(b10, Obj.map es2 clock2)], [(b2, Obj.cells #[.slice none 0 0] 73 (0, 0))], seg'] rfl rfl rfl ?_
    refine TQ.round (j + 1, ⟨a', cap', s.outs ++ [((a1, (gs[k].2.1[j]).2.1, c1), s1)], seg', mput (keyT (gs[k].2.1[j]).2.1) true s.m, es2, clock2⟩) ⟨by omega, ?_, hm2, ⟨?_, ?_⟩, ?_⟩ (by dsimp only; omega) ⟨rfl, rfl, congrArg (fun n : Nat => some (Value.slice a' n cap')) e4, rfl, rfl, rfl, rfl, rfl, rfl, trivial⟩ (by simp [pickL])
    ·rw [e5]; exact hinv.new hw4 hpw rfl ht28
    ·dsimp only
     rw [← e4, List.map_append]; exact ho'
    ·intro t ht
     rcases List.mem_append.1 ht with h | h
     ·exact hol.i t h
     ·rw [List.mem_singleton.1 h]; exact ho1
    ·dsimp only
     rw [e5, List.length_append, List.length_append]; simp only [List.length_cons, List.length_nil]; omega
   ·refine T.skip ?_
    refine TQ.block_n ?_
    refine TQ.then_n ?_
    refine T.region ?_
    refine TL.add hF rfl rfl (by omega) (by omega) rfl ?_
    refine TL.move hF rfl rfl ?_
    refine TL.nil ?_
    have e5 : catG (gs.take k) ++ gs[k].2.1.take (j + 1) = (catG (gs.take k) ++ gs[k].2.1.take j) ++ [gs[k].2.1[j]] := by rw [List.take_succ_eq_append_getElem hjl, List.append_assoc]
    refine TQ.pop ?_
    refine TQ.round (j + 1, s) ⟨by omega, ?_, hmo, hol, ?_⟩ (by dsimp only; omega) ⟨rfl, rfl, rfl, rfl, rfl, rfl, rfl, rfl, rfl, trivial⟩ rfl
    ·rw [e5]; exact hinv.had hpw ht28
    ·rw [e5, List.length_append]; omega
  ·refine T.exit ?_
   refine TQ.then_x ?_
   refine TQ.then_x ?_
   refine TQ.block_x ?_
   refine TQ.block_n ?_
   refine TQ.then_n ?_
   refine T.region ?_
   refine TL.add hF rfl rfl (by omega) (by omega) rfl ?_
   refine TL.move hF rfl rfl ?_
   refine TL.nil ?_
   have e6 : catG (gs.take k) ++ gs[k].2.1.take j = catG (gs.take (k + 1)) := by rw [hcs, List.take_of_length_le (l := gs[k].2.1) (i := j) (by omega)]
   rw [e6] at hinv holn
   refine TQ.round (k + 1, s) ⟨by omega, hinv, hmo, hol, holn⟩ (by dsimp only; omega) ⟨rfl, rfl, rfl, rfl, rfl, rfl, trivial⟩ rfl
 ·refine T.exit ?_
  refine TQ.then_x ?_
  refine TQ.then_x ?_
  refine TQ.block_x ?_
  refine TQ.then_n ?_
  refine T.seq ?_
  refine T.region ?_
  refine TL.move hF rfl rfl ?_
  have e7 : gs.take k = gs := List.take_of_length_le (by omega)
  rw [e7] at hinv holn
  refine TL.hsub ([(b2, Obj.cells #[.slice none 0 0] 73 (0, 0))] :: s.og :: (s.outs.reverse.map (·.2) ++ η)) (List.sublist_cons_self _ _) ?_
  refine TL.hperm (s.og :: (s.outs.map (·.2) ++ ([(b2, Obj.cells #[.slice none 0 0] 73 (0, 0))] :: η))) ?_ ?_
  ·refine List.Perm.trans ?_ (List.Perm.swap _ _ _)
   refine List.Perm.cons _ ?_
   refine List.Perm.trans List.perm_middle ?_
   refine List.Perm.cons _ ?_
   refine List.Perm.append_right _ ?_
   exact (List.Perm.map _ (List.reverse_perm s.outs)).symm
  refine TL.call hF (SortT_fn hol hinv.len (by omega) (by omega)) rfl rfl ?_
  rintro _ _ ⟨outs2, og2, hperm, hol2, hsrt, rfl⟩
  have hlen2 := hperm.length_eq
  refine TL.hperm ([(b2, Obj.cells #[.slice none 0 0] 73 (0, 0))] :: og2 :: (s.outs.map (·.2) ++ η)) ?_ ?_
  ·refine List.Perm.trans (List.Perm.swap _ _ _) ?_
   refine List.Perm.cons _ ?_
   exact List.perm_middle.symm
  refine TL.nil ?_
  refine TQ.then_n ?_
  refine T.seq ?_
  refine T.region ?_
  refine TL.move hF rfl rfl ?_
  refine TL.build hF rfl (r := .agg #[.slice s.oa s.outs.length s.oc]) (fun w => by kernel_rfl) rfl ?_
  refine TL.storeAI hF [.slice s.oa s.outs.length s.oc] 0 rfl rfl rfl rfl (by simp [Value.oneCell']) (by simp) ?_
  refine TL.nil ?_
  refine TQ.then_n ?_
  refine T.ret ?_
  refine TQ.retC [.slice s.oa s.outs.length s.oc] (og2 :: (s.outs.map (·.2) ++ η)) rfl rfl rfl (own_list (i := 0) (cs := [.slice s.oa s.outs.length s.oc]) rfl) (List.sublist_cons_self _ _) ?_
  refine ⟨s.oa, s.oc, outs2.map (·.1), og2 :: s.outs.map (·.2), by rw [List.length_map, hlen2], ?_, rfl, hol2.ll (by simp) (fun t ht => List.mem_cons_of_mem _ (List.mem_map_of_mem (hperm.mem_iff.1 ht))), by rw [List.length_map]; exact osl_cap hol2.o⟩
  have hmm : ∀ x, x ∈ outs2.map (fun t => t.1.2.1) ↔ x ∈ tx (catG gs) := fun x => by rw [← hinv.mem]; exact (hperm.map (fun t : HL × Seg => t.1.2.1)).mem_iff
  have h := srt_sortT (w := w) (l := tx (catG gs)) hsrt (fun t ht => hinv.len t (hperm.mem_iff.1 ht)) ((hperm.map (fun t : HL × Seg => t.1.2.1)).nodup_iff.2 hinv.nd) (fun x hx => by obtain ⟨p, hp, rfl⟩ := List.mem_map.1 hx; exact hw p hp) hmm
  rw [← h, tx, List.map_map]; rfl
theorem sub3 {x y z : Seg} {l : Heap} : l.Sublist (x :: y :: z :: l) := (List.sublist_cons_self _ _).trans ((List.sublist_cons_self _ _).trans (List.sublist_cons_self _ _))
theorem sub4 {x y z u : Seg} {l : Heap} : l.Sublist (x :: y :: z :: u :: l) := sub3.trans (List.sublist_cons_self _ _)
theorem subR {segs l m : Heap} (h : l.Sublist m) : l.Sublist (segs ++ m) := h.trans (List.sublist_append_right _ _)
set_option maxHeartbeats 2000000 in
theorem frontier_fn {a : Option Addr} {ps : List HL} {c : Nat} (hx : LL S w0 [] a ps) (hl : ps.length ≤ 200) {w : Nat} (hw : ∀ p ∈ ps, p.2.1.length = w) (hw4 : w ≤ 4) :
  RtE Tryz.prog 83 [.slice a ps.length c].toArray S w0 η (fun v η' => tx ps = firstsT (tx ps) ∧ ∃ a' cap qs segs, v = .agg #[.slice a' qs.length cap] ∧ tx qs = tx ps ∧ η' = segs ++ η ∧ LL S w0 segs a' qs ∧ qs.length ≤ cap) (fun ch η' => tx ps ≠ firstsT (tx ps) ∧ ch = stopV 1 ∧ η' = η) := by
 have hF := open_wide
 refine RtE.of (fn := Tryz.f83) Tryz.func83 rfl rfl ?_
 refine T.seq ?_
 refine T.region ?_
 refine TL.alloc hF rfl (fun b2 => ?_)
 refine TL.nil ?_
 refine TQ.then_n ?_
 refine T.seq ?_
 refine T.region ?_
 refine TL.move hF rfl rfl ?_
 refine TL.buildSlice hF rfl (cs := #[gc (a, ps, c)]) (e := 32) (fun w => by kernel_rfl) rfl (fun b7 => ?_)
 refine TL.call hF (of_fn (gs := [(a, ps, c)]) ⟨row_own (cs := [gc (a, ps, c)]) (e := 32) (by simp), fun g hg => by rw [List.mem_singleton.1 hg]; exact hx.ro⟩ (by simp) (fun g hg => by rw [List.mem_singleton.1 hg]; show ps.length < _; omega) (by simp [catG]; omega) (w := w) (by simpa [catG] using hw) hw4) rfl rfl ?_
 rintro _ _ ⟨a2, c2, qs, segs, rfl, htq, rfl, hll, hcap⟩
 have hcat : catG [(a, ps, c)] = ps := by simp [catG]
 rw [hcat] at htq
 refine TL.freeze segs rfl (fun S1 w1 hz => ?_)
 have hx1 := hx.old hz
 have hq1 := hll.frz hz
 have hwt : Wid w (tx ps) := fun x hx => by obtain ⟨p, hp, rfl⟩ := List.mem_map.1 hx; exact hw p hp
 have hwq : ∀ p ∈ qs, p.2.1.length = w := fun p hp => hwt _ (mem_sortT.1 (htq ▸ List.mem_map_of_mem hp))
 have hql : qs.length ≤ ps.length := by have := sortT_len (tx ps); rw [← htq, tx_len, tx_len] at this; exact this
 have hfi := front_iff hwt
 refine TL.alloc hF rfl (fun b3 => ?_)
 refine TL.storeAI hF [.slice a2 qs.length c2] 0 rfl rfl rfl rfl (by simp [Value.oneCell']) (by simp [Value.cells]) ?_
 refine TL.nil ?_
 refine TQ.then_n ?_
 refine T.seq ?_
 refine T.region ?_
 refine TL.fieldAddr hF rfl rfl ?_
 refine TL.load hF rfl (by first | exact At.own' (i := 0) rfl rfl | exact At.own' (i := 1) rfl rfl | exact At.own' (i := 2) rfl rfl | exact At.own' (i := 3) rfl rfl | exact At.own' (i := 4) rfl rfl | exact At.own' (i := 5) rfl rfl | exact At.own' (i := 6) rfl rfl | exact At.own' (i := 7) rfl rfl | exact At.own' (i := 8) rfl rfl | exact At.own' (i := 9) rfl rfl | exact At.own' (i := 10) rfl rfl | exact At.own' (i := 11) rfl rfl | exact At.own' (i := 12) rfl rfl) rfl ?_
 refine TL.len hF rfl rfl ?_
 refine TL.move hF rfl rfl ?_
 refine TL.len hF rfl rfl ?_
 refine TL.bin hF rfl rfl rfl rfl ?_
 refine TL.callM hF (must_fn _ 1) rfl rfl (fun hA _ => ?_) (fun hA => ?_)
 ·skip
  refine TL.nil ?_
  refine TQ.then_n ?_
  refine T.seq ?_
  refine T.seq ?_
  refine T.region ?_
  refine TL.fieldAddr hF rfl rfl ?_
  refine TL.load hF rfl (by first | exact At.own' (i := 0) rfl rfl | exact At.own' (i := 1) rfl rfl | exact At.own' (i := 2) rfl rfl | exact At.own' (i := 3) rfl rfl | exact At.own' (i := 4) rfl rfl | exact At.own' (i := 5) rfl rfl | exact At.own' (i := 6) rfl rfl | exact At.own' (i := 7) rfl rfl | exact At.own' (i := 8) rfl rfl | exact At.own' (i := 9) rfl rfl | exact At.own' (i := 10) rfl rfl | exact At.own' (i := 11) rfl rfl | exact At.own' (i := 12) rfl rfl) rfl ?_
  refine TL.len hF rfl rfl ?_
  refine TL.move hF rfl rfl ?_
  refine TL.nil ?_
  refine TQ.then_n ?_
  refine T.block ?_
  have hqp : qs.length = ps.length := by simp at hA; omega
  refine T.loop (ι := Nat) (fun k => k ≤ qs.length ∧ (tx qs).take k = (tx ps).take k) (fun k => [(0, .slice a ps.length c), (2, ptr b2), (3, ptr b3), (17, .slice a2 qs.length c2), (18, .int .i64 (qs.length : Int)), (19, .int .i64 (k : Int))]) (fun _ => [(b3, Obj.cells #[.slice a2 qs.length c2] 73 (0, 0))] :: [(b7, Obj.cells #[gc (a, ps, c)] 32 (0, 0))] :: [(b2, Obj.cells #[.slice none 0 0] 73 (0, 0))] :: η) (fun k => qs.length - k) 0 ⟨Nat.zero_le _, by simp⟩ ⟨rfl, rfl, rfl, rfl, rfl, rfl, trivial⟩ rfl ?_
  rintro k ⟨hk, hs⟩
  refine T.seq ?_
  refine T.region ?_
  refine TL.bin hF rfl rfl rfl rfl ?_
  refine TL.nil ?_
  refine TQ.then_n ?_
  refine T.seq ?_
  first | refine T.cond_d rfl (fun ht20 => ?_) (fun ht20 => ?_) | refine T.cond _ rfl (fun ht20 => ?_) (fun ht20 => ?_)
  ·refine T.skip ?_
   refine TQ.then_n ?_
   refine T.seq ?_
   refine T.block ?_
   refine T.seq ?_
   refine T.region ?_
   refine TL.move hF rfl rfl ?_
   refine TL.indexAddr hF rfl rfl (hq1.ad (i := k) (by omega)) (by omega) (by omega) rfl ?_
   refine TL.load hF rfl (hq1.ro.at (i := k) (by omega)) rfl ?_
   refine TL.assign hF rfl rfl ?_
   refine TL.assign hF rfl rfl ?_
   refine TL.nil ?_
   refine TQ.then_n ?_
   refine T.region ?_
   refine TL.move hF rfl rfl ?_
   refine TL.move hF rfl rfl ?_
   refine TL.move hF rfl rfl ?_
   refine TL.indexAddr hF rfl rfl (hx1.ad (i := k) (by omega)) (by omega) (by omega) rfl ?_
   refine TL.load hF rfl (hx1.ro.at (i := k) (by omega)) rfl ?_
   refine TL.callV hF (SEqual_fn (hq1.ro.it (i := k) (by omega)) (hx1.ro.it (i := k) (by omega)) (by rw [hwq _ (List.getElem_mem _)]; omega)) rfl rfl ?_
   refine TL.callM hF (must_fn _ 1) rfl rfl (fun hB _ => ?_) (fun hB => ?_)
   ·skip
    refine TL.nil ?_
    refine TQ.block_n ?_
    refine TQ.then_n ?_
    refine T.region ?_
    refine TL.add hF rfl rfl (by omega) (by omega) rfl ?_
    refine TL.move hF rfl rfl ?_
    refine TL.nil ?_
    refine TQ.round (k + 1) ⟨by omega, take_succ_eq (by rw [tx_len]; omega) (by rw [tx_len]; omega) hs (by rw [tx_get (by omega), tx_get (by omega)]; exact of_decide_eq_true hB)⟩ (by omega) ⟨rfl, rfl, rfl, rfl, rfl, rfl, trivial⟩ rfl
   ·skip
    refine TQ.block_p ?_
    refine TQ.then_p ?_
    refine TQ.then_p ?_
    refine TQ.block_p ?_
    refine TQ.then_p ?_
    refine TQ.thaw hz ?_
    refine TQ.hsub η (subR sub3) ?_
    exact TQ.panicE ⟨fun e => by have h1 := (hfi.1 e).1; rw [← htq] at h1; have h2 := of_decide_eq_false hB; rw [← tx_get (ps := qs) (by omega), ← tx_get (ps := ps) (by omega)] at h2; exact ne_of_getElem (by rw [tx_len]; omega) (by rw [tx_len]; omega) h2 h1, rfl, rfl⟩
  ·refine T.exit ?_
   refine TQ.then_x ?_
   refine TQ.then_x ?_
   refine TQ.block_x ?_
   refine TQ.then_n ?_
   refine T.seq ?_
   have hsame : tx qs = tx ps := by rw [List.take_of_length_le (by rw [tx_len]; omega), List.take_of_length_le (by rw [tx_len]; omega)] at hs; exact hs
   refine T.drawH 7 mixed ?_
   refine DH.pure (i := 0) [(3, _, none)] rfl rfl rfl rfl ⟨⟨rfl, by kernel_rfl⟩, trivial⟩ (fun _ ext => TL.fieldAddr hF rfl rfl TL.fin) ?_
   refine DH.read (i := 1) [(32, _, some 0)] rfl rfl rfl rfl ⟨⟨rfl, rfl, rfl⟩, trivial⟩ (fun ext => TL.load hF rfl (by first | exact At.own' (i := 0) rfl rfl | exact At.own' (i := 1) rfl rfl | exact At.own' (i := 2) rfl rfl | exact At.own' (i := 3) rfl rfl | exact At.own' (i := 4) rfl rfl | exact At.own' (i := 5) rfl rfl | exact At.own' (i := 6) rfl rfl | exact At.own' (i := 7) rfl rfl | exact At.own' (i := 8) rfl rfl | exact At.own' (i := 9) rfl rfl | exact At.own' (i := 10) rfl rfl | exact At.own' (i := 11) rfl rfl | exact At.own' (i := 12) rfl rfl) rfl TL.fin) ?_
   refine DH.read (i := 2) [] rfl rfl rfl rfl trivial (fun ext => TL.callV hF (earlier_fn) rfl rfl TL.fin) ?_
   refine DH.pure (i := 5) [(0, _, none)] rfl rfl rfl rfl ⟨⟨rfl, by kernel_rfl⟩, trivial⟩ (fun _ ext => TL.move hF rfl rfl TL.fin) ?_
   refine DH.pure (i := 6) [(37, _, some 5)] rfl rfl rfl rfl ⟨⟨rfl, rfl, rfl⟩, trivial⟩ (fun _ ext => TL.len hF rfl rfl TL.fin) ?_
   refine DH.heavy 3 [(33, _, some 1), (34, _, some 2)] (by kernel_rfl) (by kernel_rfl) (by kernel_rfl) (by kernel_rfl) rfl rfl rfl rfl ⟨⟨rfl, rfl, rfl⟩, ⟨rfl, rfl, rfl⟩, trivial⟩ (by kernel_rfl) (fun ext => ?_)
   refine TL.call hF (outerE hq1.ro (by omega) hwq (by omega)) rfl rfl ?_
   rintro _ _ ⟨a3, c3, sg, rfl, ho3, rfl⟩
   refine TL.finD ?_
   refine DH.pure (i := 4) [(35, _, some 3)] rfl rfl rfl rfl ⟨⟨rfl, rfl, rfl⟩, trivial⟩ (fun _ ext => TL.len hF rfl rfl TL.fin) ?_
   refine DH.done [(36, _), (35, _), (38, _), (37, _), (34, _), (33, _), (32, _)] [_, _] (by kernel_rfl) (by kernel_rfl) (by kernel_rfl) (by kernel_rfl) rfl rfl ?_
   refine TL.bin hF rfl rfl rfl rfl ?_
   refine TL.callM hF (must_fn _ 1) rfl rfl (fun hC _ => ?_) (fun hC => ?_)
   ·skip
    refine TL.nil ?_
    refine TQ.then_n ?_
    refine T.seq ?_
    refine T.region ?_
    refine TL.loadA hF [.slice a2 qs.length c2] rfl rfl (own_listM (e := 73) (fz := (0, 0)) (cs := [.slice a2 qs.length c2]) (by simp)) rfl ?_
    refine TL.storeAI hF [.slice a2 qs.length c2] 3 rfl rfl rfl rfl (by simp [Value.oneCell']) (by simp) ?_
    refine TL.nil ?_
    refine TQ.then_n ?_
    refine T.ret ?_
    refine TQ.thaw hz ?_
    refine TQ.retXE [.cell 2 73] [.agg #[.slice a2 qs.length c2]] (segs ++ η) rfl ⟨ResV.agg (b := b2) [.slice a2 qs.length c2] rfl rfl (own_listM (e := 73) (fz := (0, 0)) (cs := [.slice a2 qs.length c2]) (by simp)), trivial⟩ rfl ?_ ?_
    ·exact List.Sublist.append_left sub4 _
    exact ⟨hfi.2 ⟨by rw [← htq]; exact hsame, by rw [← tx_outer htq, tx_len, tx_len]; simp at hC; omega⟩, a2, c2, qs, segs, rfl, hsame, rfl, hll, hcap⟩
   ·skip
    refine TQ.then_p ?_
    refine TQ.thaw hz ?_
    refine TQ.hsub η (subR sub4) ?_
    exact TQ.panicE ⟨fun e => by have h1 := (hfi.1 e).2; rw [← tx_outer htq, tx_len, tx_len] at h1; simp [h1] at hC, rfl, rfl⟩
 ·skip
  refine TQ.then_p ?_
  refine TQ.thaw hz ?_
  refine TQ.hsub η (subR sub3) ?_
  exact TQ.panicE ⟨fun e => by have h1 := (hfi.1 e).1; rw [← htq] at h1; have h2 := congrArg List.length h1; rw [tx_len, tx_len] at h2; simp [h2] at hA, rfl, rfl⟩
end Go.Proofs.YteimjjpigohnhaaGreat
/- The exported functions on times and frontiers. -/
namespace Go.Proofs.YteimjjpigohnhaaGreat
open Go.Sl
variable {S : Nat → Prop} {w0 : World} {η : Heap}
/-! What the functions return. -/
def lessS (a b : Tm) : Bool × Int := if fitT [a, b] then (tle a b, 0) else (false, 1)
def meetS (a b : Tm) : Tm × Int := if fitT [a, b] then (tmeet a b, 0) else ([], 1)
def joinS (a b : Tm) : Tm × Int := if fitT [a, b] then (tjoin a b, 0) else ([], 1)
def sortS (l : List Tm) : List Tm × Int := if timesE l = 0 then (sortT l, 0) else ([], timesE l)
def firstsS (l : List Tm) : List Tm × Int := if timesE l = 0 then (firstsT l, 0) else ([], timesE l)
def lastsS (l : List Tm) : List Tm × Int := if timesE l = 0 then (lastsT l, 0) else ([], timesE l)
def beyondS (f : List Tm) (t : Tm) : Bool × Int := if frontE f [] [t] = 0 then (pastT f t, 0) else (false, frontE f [] [t])
def aheadS (f g : List Tm) : Bool × Int := if frontE f g [] = 0 then (aheadT f g, 0) else (false, frontE f g [])
def eitherS (f g : List Tm) : List Tm × Int := if frontE f g [] = 0 then (firstsT (f ++ g), 0) else ([], frontE f g [])
def bothS (f g : List Tm) : List Tm × Int := if frontE f g [] = 0 then (firstsT (joinsT f g), 0) else ([], frontE f g [])
def seenS (f : List Tm) (t : Tm) : Tm × Int := if frontE f [] [t] = 0 then (if f = [] then ([], 4) else (standsT f t, 0)) else ([], frontE f [] [t])
def ResB (r : Bool × Int) (η : Heap) (v : Value) (η' : Heap) : Prop := v = .tuple #[.bool r.1, .int .i64 r.2] ∧ ∃ segs, η' = segs ++ η
def ResT (S : Nat → Prop) (w0 : World) (r : Tm × Int) (η : Heap) (v : Value) (η' : Heap) : Prop := ∃ a cap segs, v = .tuple #[.slice a r.1.length cap, .int .i64 r.2] ∧ Row S w0 segs a (ints r.1) ∧ η' = segs ++ η
def ResL (S : Nat → Prop) (w0 : World) (r : List Tm × Int) (η : Heap) (v : Value) (η' : Heap) : Prop := ∃ a cap ps segs, v = .tuple #[.slice a ps.length cap, .int .i64 r.2] ∧ tx ps = r.1 ∧ LL S w0 segs a ps ∧ η' = segs ++ η
theorem fit2 {a b : Tm} (h : fitT [a, b] = true) : a.length = b.length ∧ a.length ≤ 4 ∧ 1 ≤ a.length := by
 unfold fitT fitW at h
 rw [List.all_eq_true] at h
 have h1 := h a (by simp)
 have h2 := h b (by simp)
 simp only [isT, Bool.and_eq_true] at h1 h2
 have e1 := of_decide_eq_true h1.1.1.1
 have e2 := of_decide_eq_true h1.1.1.2
 have e3 : b.length = a.length := of_decide_eq_true h2.2
 omega
theorem fit_wid {l : List Tm} (h : fitT l = true) : ∃ w, w ≤ 4 ∧ Wid w l := by
 unfold fitT fitW at h
 cases l with
 | nil => exact ⟨0, by omega, fun x hx => by simp at hx⟩
 | cons t r =>
  rw [List.all_eq_true] at h
  refine ⟨t.length, ?_, fun x hx => ?_⟩
  ·have := h t List.mem_cons_self
   simp only [isT, Bool.and_eq_true] at this
   exact of_decide_eq_true this.1.1.2
  ·have := h x hx
   rw [Bool.and_eq_true] at this
   exact of_decide_eq_true this.2
theorem wid_tx {w : Nat} {ps : List HL} (h : Wid w (tx ps)) : ∀ p ∈ ps, p.2.1.length = w := fun _p hp => h _ (List.mem_map_of_mem (f := fun p : HL => p.2.1) hp)
theorem listE_1 (g : GL) (more : List HL) : listE [g] more = if 200 < g.2.1.length then 3 else if fitT (tx g.2.1 ++ tx more) then 0 else 1 := by
 unfold listE catG; simp
theorem listE_2 (g h : GL) (more : List HL) : listE [g, h] more = if 200 < g.2.1.length ∨ 200 < h.2.1.length then 3 else if fitT (tx (g.2.1 ++ h.2.1) ++ tx more) then 0 else 1 := by
 unfold listE catG; simp
theorem listE_times (g : GL) : listE [g] [] = timesE (tx g.2.1) := by
 rw [listE_1, timesE, tx_len]
 have e : tx g.2.1 ++ tx [] = tx g.2.1 := by simp [tx]
 rw [e]
theorem zipL (a b : Tm) (h : a.length = b.length) : (tmeet a b).length = a.length ∧ (tjoin a b).length = a.length := ⟨tmeet_len h, tjoin_len h⟩
theorem frontE_t {f : List HL} {t : Tm} {g : GL} (hg : g.2.1 = f) {p : HL} (hp : p.2.1 = t) : frontE (tx f) [] [t] = if listE [g] [p] = 0 then (if tx f = firstsT (tx f) then 0 else 1) else listE [g] [p] := by
 rw [listE_1, hg]
 unfold frontE
 rw [tx_len]
 have e : tx f ++ tx [p] = tx f ++ [] ++ [t] := by simp [tx, hp]
 rw [e]
 by_cases h1 : 200 < f.length
 ·rw [if_pos (.inl h1), if_pos h1]; rfl
 ·rw [if_neg (by simp [h1]), if_neg h1]
  by_cases h2 : fitT (tx f ++ [] ++ [t]) = true
  ·rw [if_pos h2, if_pos h2, if_pos rfl]
   by_cases h3 : tx f = firstsT (tx f)
   ·rw [if_pos ⟨h3, rfl⟩, if_pos h3]
   ·rw [if_neg (fun q => h3 q.1), if_neg h3]
  ·rw [if_neg h2, if_neg h2]; rfl
theorem frontE_2 {f g : List HL} {gf gg : GL} (hf : gf.2.1 = f) (hg : gg.2.1 = g) : frontE (tx f) (tx g) [] = if listE [gf, gg] [] = 0 then (if tx f = firstsT (tx f) ∧ tx g = firstsT (tx g) then 0 else 1) else listE [gf, gg] [] := by
 rw [listE_2, hf, hg]
 unfold frontE
 rw [tx_len, tx_len]
 have e : tx (f ++ g) ++ tx [] = tx f ++ tx g ++ [] := by simp [tx]
 rw [e]
 by_cases h1 : 200 < f.length ∨ 200 < g.length
 ·rw [if_pos (by simpa using h1), if_pos h1]; rfl
 ·rw [if_neg (by simpa using h1), if_neg h1]
  by_cases h2 : fitT (tx f ++ tx g ++ []) = true
  ·rw [if_pos h2, if_pos h2]; rfl
  ·rw [if_neg h2, if_neg h2]; rfl
theorem L3.one {a b : Option Addr} {ps : List HL} {c : Nat} (hx : LL S w0 η a ps) (hr : Row S w0 η b [gc (a, ps, c)]) : L3 S w0 η b [(a, ps, c)] := ⟨hr, fun g hg => by rw [List.mem_singleton.1 hg]; exact hx⟩
theorem L3.two {a b e : Option Addr} {ps qs : List HL} {c d : Nat} (hx : LL S w0 η a ps) (hy : LL S w0 η b qs) (hr : Row S w0 η e [gc (a, ps, c), gc (b, qs, d)]) : L3 S w0 η e [(a, ps, c), (b, qs, d)] :=
 ⟨hr, fun g hg => by simp only [List.mem_cons, List.not_mem_nil, or_false] at hg; rcases hg with rfl | rfl; exact hx; exact hy⟩
theorem LL.one {a b : Option Addr} {t : List Int} {c : Nat} (hx : Row S w0 η a (ints t)) (hr : Row S w0 η b [hc (a, t, c)]) : LL S w0 η b [(a, t, c)] := ⟨hr, fun p hp => by rw [List.mem_singleton.1 hp]; exact hx⟩
theorem LL.two {a b e : Option Addr} {s t : List Int} {c d : Nat} (hx : Row S w0 η a (ints s)) (hy : Row S w0 η b (ints t)) (hr : Row S w0 η e [hc (a, s, c), hc (b, t, d)]) : LL S w0 η e [(a, s, c), (b, t, d)] :=
 ⟨hr, fun p hp => by simp only [List.mem_cons, List.not_mem_nil, or_false] at hp; rcases hp with rfl | rfl; exact hx; exact hy⟩
theorem frontE_no1 {f g more : List Tm} : frontE f g more = 0 ∨ frontE f g more = 1 ∨ frontE f g more = 3 := by
 unfold frontE; split; exact .inr (.inr rfl); split; split; exact .inl rfl; exact .inr (.inl rfl); exact .inr (.inl rfl)
theorem sub1 {x : Seg} {l : Heap} : l.Sublist (x :: l) := List.sublist_cons_self _ _
set_option maxHeartbeats 2000000 in
theorem Less_prog {a b : Option Addr} {xs ys : List Int} {c d : Nat} (hx : Row S w0 [] a (ints xs)) (hy : Row S w0 [] b (ints ys)) (hl : xs.length < 2 ^ 63) (hl2 : ys.length < 2 ^ 63) :
  Rt Tryz.prog 21 [.slice a xs.length c, .slice b ys.length d].toArray S w0 η (ResB (lessS xs ys) η) := by
 have hF := open_wide
 refine Rt.ofL (fn := Tryz.f21) Tryz.func21 rfl rfl ?_
 refine T.seq ?_
 refine T.region ?_
 refine TL.assign hF rfl rfl ?_
 refine TL.alloc hF rfl (fun b5 => ?_)
 refine TL.nil ?_
 refine TQ.then_n ?_
 refine T.seq ?_
 refine T.region ?_
 refine TL.makeFunc hF rfl rfl rfl ?_
 refine TL.defer hF rfl rfl ?_
 refine TL.nil ?_
 refine TQ.then_n ?_
 refine T.seq ?_
 refine T.region ?_
 refine TL.move hF rfl rfl ?_
 refine TL.move hF rfl rfl ?_
 refine TL.buildSlice hF rfl (cs := #[hc (a, xs, c), hc (b, ys, d)]) (e := 22) (fun w => by kernel_rfl) rfl (fun b9 => ?_)
 have hll : LL S w0 ([(b9, Obj.cells #[hc (a, xs, c), hc (b, ys, d)] 22 (0, 0))] :: [(b5, Obj.cells #[.int .i64 0] ERR (0, 0))] :: η) (some ⟨b9, 0, none⟩) [(a, xs, c), (b, ys, d)] := LL.two hx.ro hy.ro (row_own (cs := [hc (a, xs, c), hc (b, ys, d)]) (e := 22) (by simp))
 refine TL.callE hF (check_fn hll (by simp) (fun p hp => by simp only [List.mem_cons, List.not_mem_nil, or_false] at hp; rcases hp with rfl | rfl; exact hl; exact hl2)) rfl rfl ?_ ?_
 ·rintro _ _ ⟨hB, rfl⟩
  have hB : fitT [xs, ys] = true := hB
  have h2 := fit2 hB
  have hx1 := hx.ro (η' := [(b9, Obj.cells #[hc (a, xs, c), hc (b, ys, d)] 22 (0, 0))] :: [(b5, Obj.cells #[.int .i64 0] ERR (0, 0))] :: η)
  have hy1 := hy.ro (η' := [(b9, Obj.cells #[hc (a, xs, c), hc (b, ys, d)] 22 (0, 0))] :: [(b5, Obj.cells #[.int .i64 0] ERR (0, 0))] :: η)
  refine TL.nil ?_
  refine TQ.then_n ?_
  refine T.seq ?_
  refine T.region ?_
  refine TL.move hF rfl rfl ?_
  refine TL.move hF rfl rfl ?_
  refine TL.callV hF (early_fn hx1 hy1 h2.1 (by omega)) rfl rfl ?_
  refine TL.assign hF rfl rfl ?_
  refine TL.storeI hF 1 rfl rfl rfl rfl (by decide) ?_
  refine TL.nil ?_
  refine TQ.then_n ?_
  refine T.ret ?_
  have e : lessS xs ys = (tle xs ys, 0) := by unfold lessS; rw [if_pos hB]
  refine TQ.retL [4] _ stop66 (stopped_nil _) rfl rfl rfl (At.own' (i := 1) rfl rfl) ?_
  rw [e]
  exact ⟨rfl, [_, _], rfl⟩
 ·rintro _ _ ⟨hB, rfl, rfl⟩
  refine TQ.then_p ?_
  refine TQ.pop ?_
  refine TQ.panL [4] [.bool false] stop66 (stopped_err _) rfl rfl rfl (At.own' (i := 0) rfl rfl) ?_
  have e : lessS xs ys = (false, 1) := by unfold lessS; rw [if_neg (by intro h; rw [show fitT [xs, ys] = false from hB] at h; cases h)]
  rw [e]
  exact ⟨rfl, [_], rfl⟩
set_option maxHeartbeats 2000000 in
theorem Meet_prog {a b : Option Addr} {xs ys : List Int} {c d : Nat} (hx : Row S w0 [] a (ints xs)) (hy : Row S w0 [] b (ints ys)) (hl : xs.length < 2 ^ 63) (hl2 : ys.length < 2 ^ 63) :
  Rt Tryz.prog 22 [.slice a xs.length c, .slice b ys.length d].toArray S w0 η (ResT S w0 (meetS xs ys) η) := by
 have hF := open_wide
 refine Rt.ofL (fn := Tryz.f22) Tryz.func22 rfl rfl ?_
 refine T.seq ?_
 refine T.region ?_
 refine TL.assign hF rfl rfl ?_
 refine TL.alloc hF rfl (fun b5 => ?_)
 refine TL.nil ?_
 refine TQ.then_n ?_
 refine T.seq ?_
 refine T.region ?_
 refine TL.makeFunc hF rfl rfl rfl ?_
 refine TL.defer hF rfl rfl ?_
 refine TL.nil ?_
 refine TQ.then_n ?_
 refine T.seq ?_
 refine T.region ?_
 refine TL.move hF rfl rfl ?_
 refine TL.move hF rfl rfl ?_
 refine TL.buildSlice hF rfl (cs := #[hc (a, xs, c), hc (b, ys, d)]) (e := 22) (fun w => by kernel_rfl) rfl (fun b9 => ?_)
 have hll : LL S w0 ([(b9, Obj.cells #[hc (a, xs, c), hc (b, ys, d)] 22 (0, 0))] :: [(b5, Obj.cells #[.int .i64 0] ERR (0, 0))] :: η) (some ⟨b9, 0, none⟩) [(a, xs, c), (b, ys, d)] := LL.two hx.ro hy.ro (row_own (cs := [hc (a, xs, c), hc (b, ys, d)]) (e := 22) (by simp))
 refine TL.callE hF (check_fn hll (by simp) (fun p hp => by simp only [List.mem_cons, List.not_mem_nil, or_false] at hp; rcases hp with rfl | rfl; exact hl; exact hl2)) rfl rfl ?_ ?_
 ·rintro _ _ ⟨hB, rfl⟩
  have hB : fitT [xs, ys] = true := hB
  have h2 := fit2 hB
  have hx1 := hx.ro (η' := [(b9, Obj.cells #[hc (a, xs, c), hc (b, ys, d)] 22 (0, 0))] :: [(b5, Obj.cells #[.int .i64 0] ERR (0, 0))] :: η)
  have hy1 := hy.ro (η' := [(b9, Obj.cells #[hc (a, xs, c), hc (b, ys, d)] 22 (0, 0))] :: [(b5, Obj.cells #[.int .i64 0] ERR (0, 0))] :: η)
  refine TL.nil ?_
  refine TQ.then_n ?_
  refine T.seq ?_
  refine T.region ?_
  refine TL.move hF rfl rfl ?_
  refine TL.move hF rfl rfl ?_
  refine TL.call hF (meet_fn hx1 hy1 h2.1 (by omega)) rfl rfl ?_
  rintro _ _ ⟨g, rfl, rfl⟩
  refine TL.assign hF rfl rfl ?_
  refine TL.storeI hF 2 rfl rfl rfl rfl (by decide) ?_
  refine TL.nil ?_
  refine TQ.then_n ?_
  refine T.ret ?_
  have e : meetS xs ys = (tmeet xs ys, 0) := by unfold meetS; rw [if_pos hB]
  refine TQ.retL [4] _ stop69 (stopped_nil _) rfl rfl rfl (At.own' (i := 2) rfl rfl) ?_
  rw [e]
  have e2 : (tmeet xs ys).length = xs.length := tmeet_len h2.1
  refine ⟨some ⟨g, 0, none⟩, xs.length, [_, _, _], by dsimp only; rw [e2]; rfl, row_own (cs := ints (tmeet xs ys)) (e := 3) List.mem_cons_self, rfl⟩
 ·rintro _ _ ⟨hB, rfl, rfl⟩
  refine TQ.then_p ?_
  refine TQ.pop ?_
  refine TQ.panL [4] [.slice none 0 0] stop69 (stopped_err _) rfl rfl rfl (At.own' (i := 0) rfl rfl) ?_
  have e : meetS xs ys = ([], 1) := by unfold meetS; rw [if_neg (by intro h; rw [show fitT [xs, ys] = false from hB] at h; cases h)]
  rw [e]
  exact ⟨none, 0, [_], rfl, Row.none, rfl⟩
set_option maxHeartbeats 2000000 in
theorem Join_prog {a b : Option Addr} {xs ys : List Int} {c d : Nat} (hx : Row S w0 [] a (ints xs)) (hy : Row S w0 [] b (ints ys)) (hl : xs.length < 2 ^ 63) (hl2 : ys.length < 2 ^ 63) :
  Rt Tryz.prog 23 [.slice a xs.length c, .slice b ys.length d].toArray S w0 η (ResT S w0 (joinS xs ys) η) := by
 have hF := open_wide
 refine Rt.ofL (fn := Tryz.f23) Tryz.func23 rfl rfl ?_
 refine T.seq ?_
 refine T.region ?_
 refine TL.assign hF rfl rfl ?_
 refine TL.alloc hF rfl (fun b5 => ?_)
 refine TL.nil ?_
 refine TQ.then_n ?_
 refine T.seq ?_
 refine T.region ?_
 refine TL.makeFunc hF rfl rfl rfl ?_
 refine TL.defer hF rfl rfl ?_
 refine TL.nil ?_
 refine TQ.then_n ?_
 refine T.seq ?_
 refine T.region ?_
 refine TL.move hF rfl rfl ?_
 refine TL.move hF rfl rfl ?_
 refine TL.buildSlice hF rfl (cs := #[hc (a, xs, c), hc (b, ys, d)]) (e := 22) (fun w => by kernel_rfl) rfl (fun b9 => ?_)
 have hll : LL S w0 ([(b9, Obj.cells #[hc (a, xs, c), hc (b, ys, d)] 22 (0, 0))] :: [(b5, Obj.cells #[.int .i64 0] ERR (0, 0))] :: η) (some ⟨b9, 0, none⟩) [(a, xs, c), (b, ys, d)] := LL.two hx.ro hy.ro (row_own (cs := [hc (a, xs, c), hc (b, ys, d)]) (e := 22) (by simp))
 refine TL.callE hF (check_fn hll (by simp) (fun p hp => by simp only [List.mem_cons, List.not_mem_nil, or_false] at hp; rcases hp with rfl | rfl; exact hl; exact hl2)) rfl rfl ?_ ?_
 ·rintro _ _ ⟨hB, rfl⟩
  have hB : fitT [xs, ys] = true := hB
  have h2 := fit2 hB
  have hx1 := hx.ro (η' := [(b9, Obj.cells #[hc (a, xs, c), hc (b, ys, d)] 22 (0, 0))] :: [(b5, Obj.cells #[.int .i64 0] ERR (0, 0))] :: η)
  have hy1 := hy.ro (η' := [(b9, Obj.cells #[hc (a, xs, c), hc (b, ys, d)] 22 (0, 0))] :: [(b5, Obj.cells #[.int .i64 0] ERR (0, 0))] :: η)
  refine TL.nil ?_
  refine TQ.then_n ?_
  refine T.seq ?_
  refine T.region ?_
  refine TL.move hF rfl rfl ?_
  refine TL.move hF rfl rfl ?_
  refine TL.call hF (join_fn hx1 hy1 h2.1 (by omega)) rfl rfl ?_
  rintro _ _ ⟨g, rfl, rfl⟩
  refine TL.assign hF rfl rfl ?_
  refine TL.storeI hF 2 rfl rfl rfl rfl (by decide) ?_
  refine TL.nil ?_
  refine TQ.then_n ?_
  refine T.ret ?_
  have e : joinS xs ys = (tjoin xs ys, 0) := by unfold joinS; rw [if_pos hB]
  refine TQ.retL [4] _ stop71 (stopped_nil _) rfl rfl rfl (At.own' (i := 2) rfl rfl) ?_
  rw [e]
  have e2 : (tjoin xs ys).length = xs.length := tjoin_len h2.1
  refine ⟨some ⟨g, 0, none⟩, xs.length, [_, _, _], by dsimp only; rw [e2]; rfl, row_own (cs := ints (tjoin xs ys)) (e := 3) List.mem_cons_self, rfl⟩
 ·rintro _ _ ⟨hB, rfl, rfl⟩
  refine TQ.then_p ?_
  refine TQ.pop ?_
  refine TQ.panL [4] [.slice none 0 0] stop71 (stopped_err _) rfl rfl rfl (At.own' (i := 0) rfl rfl) ?_
  have e : joinS xs ys = ([], 1) := by unfold joinS; rw [if_neg (by intro h; rw [show fitT [xs, ys] = false from hB] at h; cases h)]
  rw [e]
  exact ⟨none, 0, [_], rfl, Row.none, rfl⟩
end Go.Proofs.YteimjjpigohnhaaGreat
/- The exported functions on lists of times. -/
namespace Go.Proofs.YteimjjpigohnhaaGreat
open Go.Sl
variable {S : Nat → Prop} {w0 : World} {η : Heap}
theorem times_ok {l : List Tm} (h : timesE l = 0) : l.length ≤ 200 ∧ fitT l = true := by
 unfold timesE at h
 by_cases h1 : 200 < l.length
 ·rw [if_pos h1] at h; cases h
 ·rw [if_neg h1] at h
  by_cases h2 : fitT l = true
  ·exact ⟨by omega, h2⟩
  ·rw [if_neg h2] at h; cases h
theorem list1_ok {g : GL} {more : List HL} (h : listE [g] more = 0) : g.2.1.length ≤ 200 ∧ fitT (tx g.2.1 ++ tx more) = true := by
 rw [listE_1] at h
 by_cases h1 : 200 < g.2.1.length
 ·rw [if_pos h1] at h; cases h
 ·rw [if_neg h1] at h
  by_cases h2 : fitT (tx g.2.1 ++ tx more) = true
  ·exact ⟨by omega, h2⟩
  ·rw [if_neg h2] at h; cases h
theorem list2_ok {g h : GL} (e : listE [g, h] [] = 0) : g.2.1.length ≤ 200 ∧ h.2.1.length ≤ 200 ∧ fitT (tx g.2.1 ++ tx h.2.1) = true := by
 rw [listE_2] at e
 by_cases h1 : 200 < g.2.1.length ∨ 200 < h.2.1.length
 ·rw [if_pos h1] at e; cases e
 ·rw [if_neg h1] at e
  have e2 : tx (g.2.1 ++ h.2.1) ++ tx [] = tx g.2.1 ++ tx h.2.1 := by simp [tx]
  rw [e2] at e
  by_cases h2 : fitT (tx g.2.1 ++ tx h.2.1) = true
  ·exact ⟨by omega, by omega, h2⟩
  ·rw [if_neg h2] at e; cases e
theorem wid_app {w : Nat} {l m : List Tm} (h : Wid w (l ++ m)) : Wid w l ∧ Wid w m := ⟨fun x hx => h x (List.mem_append_left _ hx), fun x hx => h x (List.mem_append_right _ hx)⟩
theorem catG_one (g : GL) : catG [g] = g.2.1 := by simp [catG]
set_option maxHeartbeats 2000000 in
theorem Sort_prog {a : Option Addr} {ps : List HL} {c : Nat} (hx : LL S w0 [] a ps) (hl : ps.length < 2 ^ 63) (hlx : ∀ p ∈ ps, p.2.1.length < 2 ^ 63) :
  Rt Tryz.prog 24 [.slice a ps.length c].toArray S w0 η (ResL S w0 (sortS (tx ps)) η) := by
 have hF := open_wide
 refine Rt.ofL (fn := Tryz.f24) Tryz.func24 rfl rfl ?_
 refine T.seq ?_
 refine T.region ?_
 refine TL.assign hF rfl rfl ?_
 refine TL.alloc hF rfl (fun b3 => ?_)
 refine TL.nil ?_
 refine TQ.then_n ?_
 refine T.seq ?_
 refine T.region ?_
 refine TL.makeFunc hF rfl rfl rfl ?_
 refine TL.defer hF rfl rfl ?_
 refine TL.nil ?_
 refine TQ.then_n ?_
 refine T.seq ?_
 refine T.region ?_
 refine TL.move hF rfl rfl ?_
 refine TL.buildSlice hF rfl (cs := #[gc (a, ps, c)]) (e := 32) (fun w => by kernel_rfl) rfl (fun b6 => ?_)
 refine TL.callE hF (listed_fn (gs := [(a, ps, c)]) (more := []) (b := none) (d := 0) (L3.one hx.ro (row_own (cs := [gc (a, ps, c)]) (e := 32) (by simp))) LL.none (by simp) (by simp) (by rw [catG_one]; exact hlx) (by simp) (fun g hg => by rw [List.mem_singleton.1 hg]; exact hl)) rfl rfl ?_ ?_
 ·rintro _ _ ⟨hB, rfl⟩
  rw [listE_times] at hB
  have hB : timesE (tx ps) = 0 := hB
  obtain ⟨hl2, hfit⟩ := times_ok hB
  rw [tx_len] at hl2
  obtain ⟨w, hw4, hwid⟩ := fit_wid hfit
  have hx1 := hx
  refine TL.nil ?_
  refine TQ.then_n ?_
  refine T.seq ?_
  refine T.region ?_
  refine TL.move hF rfl rfl ?_
  refine TL.buildSlice hF rfl (cs := #[gc (a, ps, c)]) (e := 32) (fun w => by kernel_rfl) rfl (fun b9 => ?_)
  refine TL.call hF (of_fn (gs := [(a, ps, c)]) (L3.one hx1.ro (row_own (cs := [gc (a, ps, c)]) (e := 32) (by simp))) (by simp) (fun g hg => by rw [List.mem_singleton.1 hg]; show ps.length < _; omega) (by rw [catG_one]; show ps.length < _; omega) (w := w) (by rw [catG_one]; exact wid_tx hwid) hw4) rfl rfl ?_
  rintro _ _ ⟨a2, c2, qs, segs, rfl, htq, rfl, hll, _⟩
  rw [catG_one] at htq
  refine TL.freeze segs rfl (fun S1 w1 hz1 => ?_)
  have hq1 := hll.frz hz1
  have hwq : ∀ p ∈ qs, p.2.1.length = w := fun p hp => hwid _ (mem_sortT.1 (htq ▸ List.mem_map_of_mem hp))
  have hql : qs.length ≤ ps.length := by have := sortT_len (tx ps); rw [← htq, tx_len, tx_len] at this; exact this
  refine TL.fieldR hF rfl (r := .slice a2 qs.length c2) (fun w => by kernel_rfl) rfl ?_
  refine TL.call hF (numbers_fn hq1.ro (by omega) (fun p hp => by rw [hwq p hp]; omega)) rfl rfl ?_
  rintro _ _ ⟨a4, c4, outs, og, rfl, hol, hto, rfl⟩
  refine TL.freeze (og :: outs.reverse.map (·.2)) rfl (fun S3 w3 hz3 => ?_)
  refine TL.assign hF rfl rfl ?_
  refine TL.storeI hF 2 rfl rfl rfl rfl (by decide) ?_
  refine TL.nil ?_
  refine TQ.then_n ?_
  refine T.ret ?_
  refine TQ.thaw hz3 ?_
  refine TQ.thaw hz1 ?_
  have e : sortS (tx ps) = (sortT (tx ps), 0) := by unfold sortS; rw [if_pos hB]
  refine TQ.retL [2] _ stop73 (stopped_nil _) rfl rfl rfl (own_mem (e := ERR) (fz := (0, 0)) (cs := #[.int .i64 0]) (by simp [Value.cells]) rfl) ?_
  rw [e]
  refine ⟨a4, c4, outs.map (·.1), segs ++ ((og :: outs.reverse.map (·.2)) ++ [_, _, _]), by rw [List.length_map]; rfl, by rw [← htq]; simpa [tx, List.map_map, Function.comp_def] using hto, hol.ll (by simp) (fun t ht => by simp only [List.mem_append, List.mem_cons, List.mem_map, List.mem_reverse]; right; left; right; exact ⟨t, ht, rfl⟩), by rw [List.append_assoc, List.append_assoc]; rfl⟩
 ·rintro _ _ ⟨hB, rfl, rfl⟩
  rw [listE_times] at hB ⊢
  refine TQ.then_p ?_
  refine TQ.pop ?_
  refine TQ.panL [2] [.slice none 0 0] stop73 (stopped_err _) rfl rfl rfl (At.own' (i := 0) rfl rfl) ?_
  have e : sortS (tx ps) = ([], timesE (tx ps)) := by unfold sortS; rw [if_neg (by intro h; rw [h] at hB; rcases hB with q | q <;> cases q)]
  rw [e]
  exact ⟨none, 0, [], [_], rfl, rfl, LL.none, rfl⟩
set_option maxHeartbeats 2000000 in
theorem Firsts_prog {a : Option Addr} {ps : List HL} {c : Nat} (hx : LL S w0 [] a ps) (hl : ps.length < 2 ^ 63) (hlx : ∀ p ∈ ps, p.2.1.length < 2 ^ 63) :
  Rt Tryz.prog 25 [.slice a ps.length c].toArray S w0 η (ResL S w0 (firstsS (tx ps)) η) := by
 have hF := open_wide
 refine Rt.ofL (fn := Tryz.f25) Tryz.func25 rfl rfl ?_
 refine T.seq ?_
 refine T.region ?_
 refine TL.assign hF rfl rfl ?_
 refine TL.alloc hF rfl (fun b3 => ?_)
 refine TL.nil ?_
 refine TQ.then_n ?_
 refine T.seq ?_
 refine T.region ?_
 refine TL.makeFunc hF rfl rfl rfl ?_
 refine TL.defer hF rfl rfl ?_
 refine TL.nil ?_
 refine TQ.then_n ?_
 refine T.seq ?_
 refine T.region ?_
 refine TL.move hF rfl rfl ?_
 refine TL.buildSlice hF rfl (cs := #[gc (a, ps, c)]) (e := 32) (fun w => by kernel_rfl) rfl (fun b6 => ?_)
 refine TL.callE hF (listed_fn (gs := [(a, ps, c)]) (more := []) (b := none) (d := 0) (L3.one hx.ro (row_own (cs := [gc (a, ps, c)]) (e := 32) (by simp))) LL.none (by simp) (by simp) (by rw [catG_one]; exact hlx) (by simp) (fun g hg => by rw [List.mem_singleton.1 hg]; exact hl)) rfl rfl ?_ ?_
 ·rintro _ _ ⟨hB, rfl⟩
  rw [listE_times] at hB
  have hB : timesE (tx ps) = 0 := hB
  obtain ⟨hl2, hfit⟩ := times_ok hB
  rw [tx_len] at hl2
  obtain ⟨w, hw4, hwid⟩ := fit_wid hfit
  have hx1 := hx
  refine TL.nil ?_
  refine TQ.then_n ?_
  refine T.seq ?_
  refine T.region ?_
  refine TL.move hF rfl rfl ?_
  refine TL.buildSlice hF rfl (cs := #[gc (a, ps, c)]) (e := 32) (fun w => by kernel_rfl) rfl (fun b9 => ?_)
  refine TL.call hF (of_fn (gs := [(a, ps, c)]) (L3.one hx1.ro (row_own (cs := [gc (a, ps, c)]) (e := 32) (by simp))) (by simp) (fun g hg => by rw [List.mem_singleton.1 hg]; show ps.length < _; omega) (by rw [catG_one]; show ps.length < _; omega) (w := w) (by rw [catG_one]; exact wid_tx hwid) hw4) rfl rfl ?_
  rintro _ _ ⟨a2, c2, qs, segs, rfl, htq, rfl, hll, _⟩
  rw [catG_one] at htq
  refine TL.freeze segs rfl (fun S1 w1 hz1 => ?_)
  have hq1 := hll.frz hz1
  have hwq : ∀ p ∈ qs, p.2.1.length = w := fun p hp => hwid _ (mem_sortT.1 (htq ▸ List.mem_map_of_mem hp))
  have hql : qs.length ≤ ps.length := by have := sortT_len (tx ps); rw [← htq, tx_len, tx_len] at this; exact this
  refine TL.fieldR hF rfl (r := .slice a2 qs.length c2) (fun w => by kernel_rfl) rfl ?_
  refine TL.callV hF (earlier_fn) rfl rfl ?_
  refine TL.call hF (outerE hq1.ro (by omega) hwq (by omega)) rfl rfl ?_
  rintro _ _ ⟨a3, c3, sg, rfl, ho3, rfl⟩
  refine TL.freeze [sg] rfl (fun S2 w2 hz2 => ?_)
  have hr2 : LL S2 w2 [] a3 (outP tle qs) := ⟨(ho3.row (η := [sg]) (by simp)).frz hz2, fun p hp => (hq1.item p (List.mem_filter.1 hp).1).old hz2⟩
  have hrl : (outP tle qs).length ≤ qs.length := List.length_filter_le _ _
  refine TL.call hF (numbers_fn hr2.ro (by omega) (fun p hp => by rw [hwq p (List.mem_filter.1 hp).1]; omega)) rfl rfl ?_
  rintro _ _ ⟨a4, c4, outs, og, rfl, hol, hto, rfl⟩
  refine TL.freeze (og :: outs.reverse.map (·.2)) rfl (fun S3 w3 hz3 => ?_)
  refine TL.assign hF rfl rfl ?_
  refine TL.storeI hF 2 rfl rfl rfl rfl (by decide) ?_
  refine TL.nil ?_
  refine TQ.then_n ?_
  refine T.ret ?_
  refine TQ.thaw hz3 ?_
  refine TQ.thaw hz2 ?_
  refine TQ.thaw hz1 ?_
  have e : firstsS (tx ps) = (firstsT (tx ps), 0) := by unfold firstsS; rw [if_pos hB]
  refine TQ.retL [2] _ stop77 (stopped_nil _) rfl rfl rfl (own_mem (e := ERR) (fz := (0, 0)) (cs := #[.int .i64 0]) (by simp [Value.cells]) rfl) ?_
  rw [e]
  refine ⟨a4, c4, outs.map (·.1), segs ++ ([sg] ++ ((og :: outs.reverse.map (·.2)) ++ [_, _, _])), by rw [List.length_map]; rfl, by rw [show firstsT (tx ps) = tx (outP tle qs) from (tx_outer htq).symm]; simpa [tx, List.map_map, Function.comp_def] using hto, hol.ll (by simp) (fun t ht => by simp only [List.mem_append, List.mem_cons, List.mem_map, List.mem_reverse]; right; right; left; right; exact ⟨t, ht, rfl⟩), by rw [List.append_assoc, List.append_assoc, List.append_assoc]; rfl⟩
 ·rintro _ _ ⟨hB, rfl, rfl⟩
  rw [listE_times] at hB ⊢
  refine TQ.then_p ?_
  refine TQ.pop ?_
  refine TQ.panL [2] [.slice none 0 0] stop77 (stopped_err _) rfl rfl rfl (At.own' (i := 0) rfl rfl) ?_
  have e : firstsS (tx ps) = ([], timesE (tx ps)) := by unfold firstsS; rw [if_neg (by intro h; rw [h] at hB; rcases hB with q | q <;> cases q)]
  rw [e]
  exact ⟨none, 0, [], [_], rfl, rfl, LL.none, rfl⟩
set_option maxHeartbeats 2000000 in
theorem Lasts_prog {a : Option Addr} {ps : List HL} {c : Nat} (hx : LL S w0 [] a ps) (hl : ps.length < 2 ^ 63) (hlx : ∀ p ∈ ps, p.2.1.length < 2 ^ 63) :
  Rt Tryz.prog 26 [.slice a ps.length c].toArray S w0 η (ResL S w0 (lastsS (tx ps)) η) := by
 have hF := open_wide
 refine Rt.ofL (fn := Tryz.f26) Tryz.func26 rfl rfl ?_
 refine T.seq ?_
 refine T.region ?_
 refine TL.assign hF rfl rfl ?_
 refine TL.alloc hF rfl (fun b3 => ?_)
 refine TL.nil ?_
 refine TQ.then_n ?_
 refine T.seq ?_
 refine T.region ?_
 refine TL.makeFunc hF rfl rfl rfl ?_
 refine TL.defer hF rfl rfl ?_
 refine TL.nil ?_
 refine TQ.then_n ?_
 refine T.seq ?_
 refine T.region ?_
 refine TL.move hF rfl rfl ?_
 refine TL.buildSlice hF rfl (cs := #[gc (a, ps, c)]) (e := 32) (fun w => by kernel_rfl) rfl (fun b6 => ?_)
 refine TL.callE hF (listed_fn (gs := [(a, ps, c)]) (more := []) (b := none) (d := 0) (L3.one hx.ro (row_own (cs := [gc (a, ps, c)]) (e := 32) (by simp))) LL.none (by simp) (by simp) (by rw [catG_one]; exact hlx) (by simp) (fun g hg => by rw [List.mem_singleton.1 hg]; exact hl)) rfl rfl ?_ ?_
 ·rintro _ _ ⟨hB, rfl⟩
  rw [listE_times] at hB
  have hB : timesE (tx ps) = 0 := hB
  obtain ⟨hl2, hfit⟩ := times_ok hB
  rw [tx_len] at hl2
  obtain ⟨w, hw4, hwid⟩ := fit_wid hfit
  have hx1 := hx
  refine TL.nil ?_
  refine TQ.then_n ?_
  refine T.seq ?_
  refine T.region ?_
  refine TL.move hF rfl rfl ?_
  refine TL.buildSlice hF rfl (cs := #[gc (a, ps, c)]) (e := 32) (fun w => by kernel_rfl) rfl (fun b9 => ?_)
  refine TL.call hF (of_fn (gs := [(a, ps, c)]) (L3.one hx1.ro (row_own (cs := [gc (a, ps, c)]) (e := 32) (by simp))) (by simp) (fun g hg => by rw [List.mem_singleton.1 hg]; show ps.length < _; omega) (by rw [catG_one]; show ps.length < _; omega) (w := w) (by rw [catG_one]; exact wid_tx hwid) hw4) rfl rfl ?_
  rintro _ _ ⟨a2, c2, qs, segs, rfl, htq, rfl, hll, _⟩
  rw [catG_one] at htq
  refine TL.freeze segs rfl (fun S1 w1 hz1 => ?_)
  have hq1 := hll.frz hz1
  have hwq : ∀ p ∈ qs, p.2.1.length = w := fun p hp => hwid _ (mem_sortT.1 (htq ▸ List.mem_map_of_mem hp))
  have hql : qs.length ≤ ps.length := by have := sortT_len (tx ps); rw [← htq, tx_len, tx_len] at this; exact this
  refine TL.fieldR hF rfl (r := .slice a2 qs.length c2) (fun w => by kernel_rfl) rfl ?_
  refine TL.callV hF (later_fn) rfl rfl ?_
  refine TL.call hF (outerL hq1.ro (by omega) hwq (by omega)) rfl rfl ?_
  rintro _ _ ⟨a3, c3, sg, rfl, ho3, rfl⟩
  refine TL.freeze [sg] rfl (fun S2 w2 hz2 => ?_)
  have hr2 : LL S2 w2 [] a3 (outP (fun o t => tle t o) qs) := ⟨(ho3.row (η := [sg]) (by simp)).frz hz2, fun p hp => (hq1.item p (List.mem_filter.1 hp).1).old hz2⟩
  have hrl : (outP (fun o t => tle t o) qs).length ≤ qs.length := List.length_filter_le _ _
  refine TL.call hF (numbers_fn hr2.ro (by omega) (fun p hp => by rw [hwq p (List.mem_filter.1 hp).1]; omega)) rfl rfl ?_
  rintro _ _ ⟨a4, c4, outs, og, rfl, hol, hto, rfl⟩
  refine TL.freeze (og :: outs.reverse.map (·.2)) rfl (fun S3 w3 hz3 => ?_)
  refine TL.assign hF rfl rfl ?_
  refine TL.storeI hF 2 rfl rfl rfl rfl (by decide) ?_
  refine TL.nil ?_
  refine TQ.then_n ?_
  refine T.ret ?_
  refine TQ.thaw hz3 ?_
  refine TQ.thaw hz2 ?_
  refine TQ.thaw hz1 ?_
  have e : lastsS (tx ps) = (lastsT (tx ps), 0) := by unfold lastsS; rw [if_pos hB]
  refine TQ.retL [2] _ stop80 (stopped_nil _) rfl rfl rfl (own_mem (e := ERR) (fz := (0, 0)) (cs := #[.int .i64 0]) (by simp [Value.cells]) rfl) ?_
  rw [e]
  refine ⟨a4, c4, outs.map (·.1), segs ++ ([sg] ++ ((og :: outs.reverse.map (·.2)) ++ [_, _, _])), by rw [List.length_map]; rfl, by rw [show lastsT (tx ps) = tx (outP (fun o t => tle t o) qs) from (tx_outer htq).symm]; simpa [tx, List.map_map, Function.comp_def] using hto, hol.ll (by simp) (fun t ht => by simp only [List.mem_append, List.mem_cons, List.mem_map, List.mem_reverse]; right; right; left; right; exact ⟨t, ht, rfl⟩), by rw [List.append_assoc, List.append_assoc, List.append_assoc]; rfl⟩
 ·rintro _ _ ⟨hB, rfl, rfl⟩
  rw [listE_times] at hB ⊢
  refine TQ.then_p ?_
  refine TQ.pop ?_
  refine TQ.panL [2] [.slice none 0 0] stop80 (stopped_err _) rfl rfl rfl (At.own' (i := 0) rfl rfl) ?_
  have e : lastsS (tx ps) = ([], timesE (tx ps)) := by unfold lastsS; rw [if_neg (by intro h; rw [h] at hB; rcases hB with q | q <;> cases q)]
  rw [e]
  exact ⟨none, 0, [], [_], rfl, rfl, LL.none, rfl⟩
end Go.Proofs.YteimjjpigohnhaaGreat
/- The exported functions on frontiers: beyond, ahead, seen. -/
namespace Go.Proofs.YteimjjpigohnhaaGreat
open Go.Sl
variable {S : Nat → Prop} {w0 : World} {η : Heap}
theorem frontier_gen {a : Option Addr} {ps : List HL} {c : Nat} (hx : LL S w0 [] a ps) (hl : ps.length ≤ 200) {w : Nat} (hw : Wid w (tx ps)) (hw4 : w ≤ 4) :
  RtE Tryz.prog 83 [.slice a ps.length c].toArray S w0 η (fun v η' => tx ps = firstsT (tx ps) ∧ ∃ a' cap qs segs, v = .agg #[.slice a' qs.length cap] ∧ tx qs = tx ps ∧ η' = segs ++ η ∧ LL S w0 segs a' qs ∧ qs.length ≤ cap) (fun ch η' => tx ps ≠ firstsT (tx ps) ∧ ch = stopV 1 ∧ η' = η) := frontier_fn hx hl (wid_tx hw) hw4
theorem tx_len_eq {ps qs : List HL} (h : tx qs = tx ps) : qs.length = ps.length := by rw [← tx_len, h, tx_len]
set_option maxHeartbeats 2000000 in
theorem Beyond_prog {a b : Option Addr} {ps : List HL} {t : List Int} {c d : Nat} (hx : LL S w0 [] a ps) (ht : Row S w0 [] b (ints t)) (hl : ps.length < 2 ^ 63) (hlx : ∀ p ∈ ps, p.2.1.length < 2 ^ 63) (htl : t.length < 2 ^ 63) :
  Rt Tryz.prog 27 [.slice a ps.length c, .slice b t.length d].toArray S w0 η (ResB (beyondS (tx ps) t) η) := by
 have hF := open_wide
 refine Rt.ofL (fn := Tryz.f27) Tryz.func27 rfl rfl ?_
 refine T.seq ?_
 refine T.region ?_
 refine TL.assign hF rfl rfl ?_
 refine TL.alloc hF rfl (fun b5 => ?_)
 refine TL.nil ?_
 refine TQ.then_n ?_
 refine T.seq ?_
 refine T.region ?_
 refine TL.makeFunc hF rfl rfl rfl ?_
 refine TL.defer hF rfl rfl ?_
 refine TL.nil ?_
 refine TQ.then_n ?_
 refine T.seq ?_
 refine T.region ?_
 refine TL.move hF rfl rfl ?_
 refine TL.buildSlice hF rfl (cs := #[hc (b, t, d)]) (e := 22) (fun w => by kernel_rfl) rfl (fun b8 => ?_)
 refine TL.move hF rfl rfl ?_
 refine TL.buildSlice hF rfl (cs := #[gc (a, ps, c)]) (e := 32) (fun w => by kernel_rfl) rfl (fun b10 => ?_)
 refine TL.callE hF (listed_fn (gs := [(a, ps, c)]) (more := [(b, t, d)]) (L3.one hx.ro (row_own (cs := [gc (a, ps, c)]) (e := 32) (by simp))) (LL.one ht.ro (row_own (cs := [hc (b, t, d)]) (e := 22) (by simp))) (by simp) (by simp) (by rw [catG_one]; exact hlx) (fun p hp => by rw [List.mem_singleton.1 hp]; exact htl) (fun g hg => by rw [List.mem_singleton.1 hg]; exact hl)) rfl rfl ?_ ?_
 ·rintro _ _ ⟨hB, rfl⟩
  obtain ⟨hl2, hfit⟩ := list1_ok hB
  have hl2 : ps.length ≤ 200 := hl2
  obtain ⟨w, hw4, hwid⟩ := fit_wid hfit
  have hwp : Wid w (tx ps) := (wid_app hwid).1
  have hwt : t.length = w := (wid_app hwid).2 t (by simp [tx])
  have hE := frontE_t (f := ps) (t := t) (g := (a, ps, c)) rfl (p := (b, t, d)) rfl
  rw [if_pos hB] at hE
  refine TL.nil ?_
  refine TQ.then_n ?_
  refine T.seq ?_
  refine T.region ?_
  refine TL.move hF rfl rfl ?_
  refine TL.callE hF (frontier_gen hx hl2 hwp hw4) rfl rfl ?_ ?_
  ·rintro _ _ ⟨hfr, a2, c2, qs, segs, rfl, htq, rfl, hll, hcap⟩
   rw [if_pos hfr] at hE
   refine TL.freeze segs rfl (fun S1 w1 hz1 => ?_)
   have hq1 := hll.frz hz1
   have ht1 := ht.old hz1
   have hql := tx_len_eq htq
   have hwq : ∀ p ∈ qs, p.2.1.length = t.length := fun p hp => by rw [hwt]; exact wid_tx (htq ▸ hwp) p hp
   refine TL.fieldR hF rfl (r := .slice a2 qs.length c2) (fun w => by kernel_rfl) rfl ?_
   refine TL.move hF rfl rfl ?_
   refine TL.callV hF (beyond_fn hq1.ro ht1.ro (by omega) hwq htl) rfl rfl ?_
   refine TL.assign hF rfl rfl ?_
   refine TL.storeI hF 2 rfl rfl rfl rfl (by decide) ?_
   refine TL.nil ?_
   refine TQ.then_n ?_
   refine T.ret ?_
   refine TQ.thaw hz1 ?_
   have e : beyondS (tx ps) t = (pastT (tx ps) t, 0) := by unfold beyondS; rw [hE, if_pos rfl]
   refine TQ.retL [4] _ stop82 (stopped_nil _) rfl rfl rfl (own_mem (e := ERR) (fz := (0, 0)) (cs := #[.int .i64 0]) (by simp [Value.cells]) rfl) ?_
   rw [e, htq]
   exact ⟨rfl, segs ++ [_, _, _], by rw [List.append_assoc]; rfl⟩
  ·rintro _ _ ⟨hfr, rfl, rfl⟩
   rw [if_neg hfr] at hE
   refine TQ.then_p ?_
   refine TQ.pop ?_
   refine TQ.pop ?_
   refine TQ.panL [4] [.bool false] stop82 (stopped_err _) rfl rfl rfl (At.own' (i := 0) rfl rfl) ?_
   have e : beyondS (tx ps) t = (false, 1) := by unfold beyondS; rw [hE, if_neg (by decide)]
   rw [e]
   exact ⟨rfl, [_], rfl⟩
 ·rintro _ _ ⟨hB, rfl, rfl⟩
  have hE := frontE_t (f := ps) (t := t) (g := (a, ps, c)) rfl (p := (b, t, d)) rfl
  rw [if_neg (by intro h; rw [h] at hB; rcases hB with q | q <;> cases q)] at hE
  refine TQ.then_p ?_
  refine TQ.pop ?_
  refine TQ.pop ?_
  refine TQ.panL [4] [.bool false] stop82 (stopped_err _) rfl rfl rfl (At.own' (i := 0) rfl rfl) ?_
  rw [← hE]
  have e : beyondS (tx ps) t = (false, frontE (tx ps) [] [t]) := by unfold beyondS; rw [if_neg (by intro h; rw [h] at hE; rw [← hE] at hB; rcases hB with q | q <;> cases q)]
  rw [e]
  exact ⟨rfl, [_], rfl⟩
/-- What is seen from the first times. -/
def seenK (f : List Tm) (t : Tm) (k : Nat) : Tm := standsT (f.take (k + 1)) t
theorem seenK_succ {f : List Tm} {t : Tm} {k : Nat} (h : k + 1 < f.length) : seenK f t (k + 1) = tmeet (seenK f t k) (tjoin t f[k + 1]) := by
 cases f with
 | nil => simp at h
 | cons o r =>
  unfold seenK
  simp only [List.take_succ_cons, standsT, List.getElem_cons_succ]
  rw [List.take_succ_eq_append_getElem (by simpa using h), List.foldl_append, tjoin_comm t]; rfl
theorem seenK_end {f : List Tm} {t : Tm} {k : Nat} (h : f.length ≤ k + 1) : seenK f t k = standsT f t := by unfold seenK; rw [List.take_of_length_le h]
theorem stands_len {w : Nat} {f : List Tm} (hf : Wid w f) {t : Tm} (ht : t.length = w) : (standsT f t).length = w := by
 cases f with
 | nil => exact ht
 | cons o r =>
  rw [stands_eq (by simp), tjoin_len, meetT_len (by simp) hf]
  rw [meetT_len (by simp) hf, ht]
theorem seenK_len {w : Nat} {f : List Tm} (hf : Wid w f) {t : Tm} (ht : t.length = w) (k : Nat) : (seenK f t k).length = w := stands_len (fun x hx => hf x (List.mem_of_mem_take hx)) ht
set_option maxHeartbeats 2000000 in
theorem Seen_prog {a b : Option Addr} {ps : List HL} {t : List Int} {c d : Nat} (hx : LL S w0 [] a ps) (ht : Row S w0 [] b (ints t)) (hl : ps.length < 2 ^ 63) (hlx : ∀ p ∈ ps, p.2.1.length < 2 ^ 63) (htl : t.length < 2 ^ 63) :
  Rt Tryz.prog 28 [.slice a ps.length c, .slice b t.length d].toArray S w0 η (ResT S w0 (seenS (tx ps) t) η) := by
 have hF := open_wide
 refine Rt.ofL (fn := Tryz.f28) Tryz.func28 rfl rfl ?_
 refine T.seq ?_
 refine T.region ?_
 refine TL.assign hF rfl rfl ?_
 refine TL.alloc hF rfl (fun b5 => ?_)
 refine TL.nil ?_
 refine TQ.then_n ?_
 refine T.seq ?_
 refine T.region ?_
 refine TL.makeFunc hF rfl rfl rfl ?_
 refine TL.defer hF rfl rfl ?_
 refine TL.nil ?_
 refine TQ.then_n ?_
 refine T.seq ?_
 refine T.region ?_
 refine TL.move hF rfl rfl ?_
 refine TL.buildSlice hF rfl (cs := #[hc (b, t, d)]) (e := 22) (fun w => by kernel_rfl) rfl (fun b8 => ?_)
 refine TL.move hF rfl rfl ?_
 refine TL.buildSlice hF rfl (cs := #[gc (a, ps, c)]) (e := 32) (fun w => by kernel_rfl) rfl (fun b10 => ?_)
 refine TL.callE hF (listed_fn (gs := [(a, ps, c)]) (more := [(b, t, d)]) (L3.one hx.ro (row_own (cs := [gc (a, ps, c)]) (e := 32) (by simp))) (LL.one ht.ro (row_own (cs := [hc (b, t, d)]) (e := 22) (by simp))) (by simp) (by simp) (by rw [catG_one]; exact hlx) (fun p hp => by rw [List.mem_singleton.1 hp]; exact htl) (fun g hg => by rw [List.mem_singleton.1 hg]; exact hl)) rfl rfl ?_ ?_
 ·rintro _ _ ⟨hB, rfl⟩
  obtain ⟨hl2, hfit⟩ := list1_ok hB
  have hl2 : ps.length ≤ 200 := hl2
  obtain ⟨w, hw4, hwid⟩ := fit_wid hfit
  have hwp : Wid w (tx ps) := (wid_app hwid).1
  have hwt : t.length = w := (wid_app hwid).2 t (by simp [tx])
  have hE := frontE_t (f := ps) (t := t) (g := (a, ps, c)) rfl (p := (b, t, d)) rfl
  rw [if_pos hB] at hE
  refine TL.nil ?_
  refine TQ.then_n ?_
  refine T.seq ?_
  refine T.region ?_
  refine TL.move hF rfl rfl ?_
  refine TL.callE hF (frontier_gen hx hl2 hwp hw4) rfl rfl ?_ ?_
  ·rintro _ _ ⟨hfr, a2, c2, qs, segs, rfl, htq, rfl, hll, hcap⟩
   rw [if_pos hfr] at hE
   refine TL.freeze segs rfl (fun S1 w1 hz1 => ?_)
   have hq1 := hll.frz hz1
   have ht1 := ht.old hz1
   have hql := tx_len_eq htq
   have hwq : ∀ p ∈ qs, p.2.1.length = t.length := fun p hp => by rw [hwt]; exact wid_tx (htq ▸ hwp) p hp
   refine TL.fieldR hF rfl (r := .slice a2 qs.length c2) (fun w => by kernel_rfl) rfl ?_
   refine TL.assign hF rfl rfl ?_
   refine TL.nil ?_
   refine TQ.then_n ?_
   refine T.seq ?_
   refine T.region ?_
   refine TL.move hF rfl rfl ?_
   refine TL.len hF rfl rfl ?_
   refine TL.bin hF rfl rfl rfl rfl ?_
   refine TL.callM hF (must_fn _ 4) rfl rfl (fun hC _ => ?_) (fun hC => ?_)
   ·skip
    refine TL.nil ?_
    refine TQ.then_n ?_
    refine T.seq ?_
    refine T.region ?_
    refine TL.move hF rfl rfl ?_
    refine TL.move hF rfl rfl ?_
    have hqp : 0 < qs.length := by simp at hC; omega
    have hjl : ∀ k (h : k < qs.length), t.length = (qs[k]).2.1.length := fun k h => (hwq _ (List.getElem_mem h)).symm
    refine TL.indexAddr hF rfl rfl (hq1.ad (i := 0) (by omega)) (by omega) (by omega) rfl ?_
    refine TL.load hF rfl (hq1.ro.at (i := 0) (by omega)) rfl ?_
    refine TL.call hF (join_fn ht1.ro (hq1.ro.it (i := 0) (by omega)) (hjl 0 hqp) (by omega)) rfl rfl ?_
    rintro _ _ ⟨g, rfl, rfl⟩
    refine TL.assign hF rfl rfl ?_
    refine TL.nil ?_
    refine TQ.then_n ?_
    refine T.seq ?_
    refine T.seq ?_
    refine T.region ?_
    refine TL.move hF rfl rfl ?_
    refine TL.slice hF (i := 1) (j := qs.length) rfl rfl rfl (by omega) hcap rfl ?_
    refine TL.len hF rfl rfl ?_
    refine TL.move hF rfl rfl ?_
    refine TL.nil ?_
    refine TQ.then_n ?_
    refine T.block ?_
    have hpart := hq1.part (c := c2) (i := 1) (j := qs.length) (Nat.le_refl _) (by omega) hcap
    rw [List.take_of_length_le (by simp)] at hpart
    have hdl : (qs.drop 1).length = qs.length - 1 := by simp
    refine T.hsub ([(g, Obj.cells (ints (tjoin t (qs[0]).2.1)).toArray 3 (0, 0))] :: [(b10, Obj.cells #[gc (a, ps, c)] 32 (0, 0))] :: [(b8, Obj.cells #[hc (b, t, d)] 22 (0, 0))] :: [(b5, Obj.cells #[.int .i64 0] ERR (0, 0))] :: η) (List.Sublist.refl _) ?_
    have e0 : tjoin t (qs[0]).2.1 = seenK (tx qs) t 0 := by
     cases qs with
     | nil => simp at hqp
     | cons q r => simp [seenK, tx, standsT, tjoin_comm]
    rw [e0]
    refine T.loop (ι := Nat × Nat × Heap) (fun i => i.1 ≤ qs.length - 1) (fun i => [(1, .slice b t.length d), (4, .slice none 0 0), (5, ptr b5), (7, .slice (some ⟨i.2.1, 0, none⟩) t.length t.length), (29, .slice (if c2 = 1 then a2 else a2.map (·.add (1 * 1))) (qs.length - 1) (c2 - 1)), (30, .int .i64 ((qs.length - 1 : Nat) : Int)), (31, .int .i64 (i.1 : Int))]) (fun i => [(i.2.1, Obj.cells (ints (seenK (tx qs) t i.1)).toArray 3 (0, 0))] :: (i.2.2 ++ [(b10, Obj.cells #[gc (a, ps, c)] 32 (0, 0))] :: [(b8, Obj.cells #[hc (b, t, d)] 22 (0, 0))] :: [(b5, Obj.cells #[.int .i64 0] ERR (0, 0))] :: η)) (fun i => qs.length - 1 - i.1) (0, g, []) (Nat.zero_le _) ⟨rfl, rfl, rfl, rfl, rfl, rfl, rfl, trivial⟩ rfl ?_
    rintro ⟨k, g, gar⟩ hk
    dsimp only at hk
    refine T.seq ?_
    refine T.region ?_
    refine TL.bin hF rfl rfl rfl rfl ?_
    refine TL.nil ?_
    refine TQ.then_n ?_
    refine T.seq ?_
    first | refine T.cond_d rfl (fun ht32 => ?_) (fun ht32 => ?_) | refine T.cond _ rfl (fun ht32 => ?_) (fun ht32 => ?_)
    ·refine T.skip ?_
     refine TQ.then_n ?_
     refine T.seq ?_
     refine T.block ?_
     refine T.seq ?_
     refine T.region ?_
     refine TL.indexAddr hF rfl rfl (hpart.ad (i := k) (by omega)) (by omega) (by omega) rfl ?_
     refine TL.load hF rfl (hpart.ro.at (i := k) (by omega)) rfl ?_
     refine TL.assign hF rfl rfl ?_
     refine TL.nil ?_
     refine TQ.then_n ?_
     refine T.region ?_
     refine TL.move hF rfl rfl ?_
     refine TL.move hF rfl rfl ?_
     refine TL.move hF rfl rfl ?_
     have hkq : k + 1 < qs.length := by omega
     have egk : (qs.drop 1)[k]'(by omega) = qs[k + 1] := by rw [List.getElem_drop]; congr 1; omega
     rw [egk]
     refine TL.call hF (join_fn ht1.ro (hq1.ro.it (i := k + 1) hkq) (hjl (k + 1) hkq) (by omega)) rfl rfl ?_
     rintro _ _ ⟨g2, rfl, rfl⟩
     have hsl := seenK_len (f := tx qs) (w := t.length) (fun x hx => by obtain ⟨p, hp, rfl⟩ := List.mem_map.1 hx; exact hwq p hp) rfl k
     have hjl2 : (tjoin t (qs[k + 1]).2.1).length = t.length := tjoin_len (hjl (k + 1) hkq)
     have hm := meet_fn (S := S1) (w0 := w1) (η := [(g2, Obj.cells (ints (tjoin t (qs[k + 1]).2.1)).toArray 3 (0, 0))] :: [(g, Obj.cells (ints (seenK (tx qs) t k)).toArray 3 (0, 0))] :: (gar ++ [(b10, Obj.cells #[gc (a, ps, c)] 32 (0, 0))] :: [(b8, Obj.cells #[hc (b, t, d)] 22 (0, 0))] :: [(b5, Obj.cells #[.int .i64 0] ERR (0, 0))] :: η)) (a := some ⟨g, 0, none⟩) (b := some ⟨g2, 0, none⟩) (xs := seenK (tx qs) t k) (ys := tjoin t (qs[k + 1]).2.1) (c := t.length) (d := t.length) (row_own (e := 3) (by simp)) (row_own (e := 3) (by simp)) (by rw [hsl, hjl2]) (by rw [hsl]; omega)
     rw [hsl, hjl2] at hm
     refine TL.call hF hm rfl rfl ?_
     rintro _ _ ⟨g3, rfl, rfl⟩
     refine TL.assign hF rfl rfl ?_
     refine TL.nil ?_
     refine TQ.block_n ?_
     refine TQ.then_n ?_
     refine T.region ?_
     refine TL.add hF rfl rfl (by omega) (by omega) rfl ?_
     refine TL.move hF rfl rfl ?_
     refine TL.nil ?_
     refine TQ.round (k + 1, g3, [(g2, Obj.cells (ints (tjoin t (qs[k + 1]).2.1)).toArray 3 (0, 0))] :: [(g, Obj.cells (ints (seenK (tx qs) t k)).toArray 3 (0, 0))] :: gar) (by dsimp only; omega) (by dsimp only; omega) ⟨rfl, rfl, rfl, rfl, rfl, rfl, rfl, trivial⟩ ?_
     dsimp only
     rw [seenK_succ (by rw [tx_len]; omega), tx_get hkq]; rfl
    ·refine T.exit ?_
     refine TQ.then_x ?_
     refine TQ.then_x ?_
     refine TQ.block_x ?_
     refine TQ.then_n ?_
     refine T.seq ?_
     refine T.region ?_
     refine TL.move hF rfl rfl ?_
     refine TL.assign hF rfl rfl ?_
     refine TL.hperm ([(b5, Obj.cells #[.int .i64 0] ERR (0, 0))] :: ([(g, Obj.cells (ints (seenK (tx qs) t k)).toArray 3 (0, 0))] :: (gar ++ ([(b10, Obj.cells #[gc (a, ps, c)] 32 (0, 0))] :: [(b8, Obj.cells #[hc (b, t, d)] 22 (0, 0))] :: η)))) ?_ ?_
     ·refine List.Perm.symm ?_
      refine List.Perm.trans (List.Perm.cons _ (List.Perm.append_left gar ((List.Perm.cons _ (List.Perm.swap _ _ _)).trans (List.Perm.swap _ _ _)))) ?_
      exact (List.Perm.cons _ List.perm_middle).trans (List.Perm.swap _ _ _)
     refine TL.storeI hF 0 rfl rfl rfl rfl (by decide) ?_
     refine TL.nil ?_
     refine TQ.then_n ?_
     refine T.ret ?_
     refine TQ.thaw hz1 ?_
     have hkn : k = qs.length - 1 := by omega
     have e : seenS (tx ps) t = (standsT (tx ps) t, 0) := by
      unfold seenS; rw [hE, if_pos rfl, if_neg]
      intro h; have h0 := congrArg List.length h; rw [tx_len] at h0; have h1 : ps.length = 0 := h0; omega
     refine TQ.retL [4] _ stop85 (stopped_nil _) rfl rfl rfl (own_mem (e := ERR) (fz := (0, 0)) (cs := #[.int .i64 0]) (by simp) rfl) ?_
     rw [e]
     have e2 : seenK (tx qs) t k = standsT (tx ps) t := by rw [seenK_end (by rw [tx_len]; omega), htq]
     have e3 : (standsT (tx ps) t).length = t.length := stands_len (hwt ▸ hwp) rfl
     refine ⟨some ⟨g, 0, none⟩, t.length, segs ++ ([(b5, Obj.cells #[.int .i64 0] ERR (0, 0))] :: ([(g, Obj.cells (ints (seenK (tx qs) t k)).toArray 3 (0, 0))] :: (gar ++ [[(b10, Obj.cells #[gc (a, ps, c)] 32 (0, 0))], [(b8, Obj.cells #[hc (b, t, d)] 22 (0, 0))]]))), by dsimp only; rw [e3]; rfl, by rw [← e2]; exact row_own (cs := ints (seenK (tx qs) t k)) (e := 3) (by simp), ?_⟩
     simp only [List.append_assoc, List.cons_append]; rfl
   ·skip
    refine TQ.then_p ?_
    refine TQ.thaw hz1 ?_
    refine TQ.hsub ([(b5, Obj.cells #[.int .i64 0] ERR (0, 0))] :: η) (subR (sub1.trans sub1)) ?_
    refine TQ.panL [4] [.slice none 0 0] stop85 (stopped_err _) rfl rfl rfl (At.own' (i := 0) rfl rfl) ?_
    have e : seenS (tx ps) t = ([], 4) := by
     unfold seenS; rw [hE, if_pos rfl, if_pos]
     simp at hC
     rw [← htq, hC]; rfl
    rw [e]
    exact ⟨none, 0, [_], rfl, Row.none, rfl⟩
  ·rintro _ _ ⟨hfr, rfl, rfl⟩
   rw [if_neg hfr] at hE
   refine TQ.then_p ?_
   refine TQ.pop ?_
   refine TQ.pop ?_
   refine TQ.panL [4] [.slice none 0 0] stop85 (stopped_err _) rfl rfl rfl (At.own' (i := 0) rfl rfl) ?_
   have e : seenS (tx ps) t = ([], 1) := by unfold seenS; rw [hE, if_neg (by decide)]
   rw [e]
   exact ⟨none, 0, [_], rfl, Row.none, rfl⟩
 ·rintro _ _ ⟨hB, rfl, rfl⟩
  have hE := frontE_t (f := ps) (t := t) (g := (a, ps, c)) rfl (p := (b, t, d)) rfl
  rw [if_neg (by intro h; rw [h] at hB; rcases hB with q | q <;> cases q)] at hE
  refine TQ.then_p ?_
  refine TQ.pop ?_
  refine TQ.pop ?_
  refine TQ.panL [4] [.slice none 0 0] stop85 (stopped_err _) rfl rfl rfl (At.own' (i := 0) rfl rfl) ?_
  rw [← hE]
  have e : seenS (tx ps) t = ([], frontE (tx ps) [] [t]) := by unfold seenS; rw [if_neg (by intro h; rw [h] at hE; rw [← hE] at hB; rcases hB with q | q <;> cases q)]
  rw [e]
  exact ⟨none, 0, [_], rfl, Row.none, rfl⟩
end Go.Proofs.YteimjjpigohnhaaGreat
/- The exported functions on two frontiers. -/
namespace Go.Proofs.YteimjjpigohnhaaGreat
open Go.Sl
variable {S : Nat → Prop} {w0 : World} {η : Heap}
theorem catG_two (g h : GL) : catG [g, h] = g.2.1 ++ h.2.1 := by simp [catG]
theorem aheadT_drop {f g : List Tm} {k : Nat} (h : k < g.length) : (g.drop k).all (pastT f) = (pastT f g[k] && (g.drop (k + 1)).all (pastT f)) := by rw [drop_step h, List.all_cons]
set_option maxHeartbeats 2000000 in
theorem Ahead_prog {a b : Option Addr} {ps rs : List HL} {c d : Nat} (hx : LL S w0 [] a ps) (hy : LL S w0 [] b rs) (hl : ps.length < 2 ^ 63) (hl2 : rs.length < 2 ^ 63) (hlx : ∀ p ∈ ps, p.2.1.length < 2 ^ 63) (hly : ∀ p ∈ rs, p.2.1.length < 2 ^ 63) :
  Rt Tryz.prog 33 [.slice a ps.length c, .slice b rs.length d].toArray S w0 η (ResB (aheadS (tx ps) (tx rs)) η) := by
 have hF := open_wide
 refine Rt.ofL (fn := Tryz.f33) Tryz.func33 rfl rfl ?_
 refine T.seq ?_
 refine T.region ?_
 refine TL.assign hF rfl rfl ?_
 refine TL.alloc hF rfl (fun b5 => ?_)
 refine TL.nil ?_
 refine TQ.then_n ?_
 refine T.seq ?_
 refine T.region ?_
 refine TL.makeFunc hF rfl rfl rfl ?_
 refine TL.defer hF rfl rfl ?_
 refine TL.nil ?_
 refine TQ.then_n ?_
 refine T.seq ?_
 refine T.region ?_
 refine TL.move hF rfl rfl ?_
 refine TL.move hF rfl rfl ?_
 refine TL.buildSlice hF rfl (cs := #[gc (a, ps, c), gc (b, rs, d)]) (e := 32) (fun w => by kernel_rfl) rfl (fun b13 => ?_)
 refine TL.callE hF (listed_fn (gs := [(a, ps, c), (b, rs, d)]) (more := []) (b := none) (d := 0) (L3.two hx.ro hy.ro (row_own (cs := [gc (a, ps, c), gc (b, rs, d)]) (e := 32) (by simp))) LL.none (by simp) (by simp) (by rw [catG_two]; exact fun p hp => (List.mem_append.1 hp).elim (hlx p) (hly p)) (by simp) (fun g hg => by simp only [List.mem_cons, List.not_mem_nil, or_false] at hg; rcases hg with rfl | rfl; exact hl; exact hl2)) rfl rfl ?_ ?_
 ·rintro _ _ ⟨hB, rfl⟩
  obtain ⟨hl3, hl4, hfit⟩ := list2_ok hB
  have hl3 : ps.length ≤ 200 := hl3
  have hl4 : rs.length ≤ 200 := hl4
  obtain ⟨w, hw4, hwid⟩ := fit_wid hfit
  have hwp : Wid w (tx ps) := (wid_app hwid).1
  have hwr : Wid w (tx rs) := (wid_app hwid).2
  have hE := frontE_2 (f := ps) (g := rs) (gf := (a, ps, c)) (gg := (b, rs, d)) rfl rfl
  rw [if_pos hB] at hE
  refine TL.nil ?_
  refine TQ.then_n ?_
  refine T.seq ?_
  refine T.region ?_
  refine TL.move hF rfl rfl ?_
  refine TL.callE hF (frontier_gen hx hl3 hwp hw4) rfl rfl ?_ ?_
  ·rintro _ _ ⟨hfr, a2, c2, qs, segs, rfl, htq, rfl, hll, hcap⟩
   refine TL.freeze segs rfl (fun S1 w1 hz1 => ?_)
   have hq1 := hll.frz hz1
   have hy1 := hy.old hz1
   have hql := tx_len_eq htq
   refine TL.move hF rfl rfl ?_
   refine TL.callE hF (frontier_gen hy1 hl4 hwr hw4) rfl rfl ?_ ?_
   ·rintro _ _ ⟨hfr2, a3, c3, us, segs2, rfl, htu, rfl, hll2, hcap2⟩
    rw [if_pos ⟨hfr, hfr2⟩] at hE
    refine TL.freeze segs2 rfl (fun S2 w2 hz2 => ?_)
    have hq2 := hq1.old hz2
    have hu2 := hll2.frz hz2
    have hul := tx_len_eq htu
    have hwq : ∀ p ∈ qs, p.2.1.length = w := wid_tx (htq ▸ hwp)
    have hwu : ∀ p ∈ us, p.2.1.length = w := wid_tx (htu ▸ hwr)
    refine TL.alloc hF rfl (fun b6 => ?_)
    refine TL.alloc hF rfl (fun b7 => ?_)
    refine TL.storeAI hF [.slice a2 qs.length c2] 1 rfl rfl rfl rfl (by simp [Value.oneCell']) (by simp [Value.cells]) ?_
    refine TL.storeAI hF [.slice a3 us.length c3] 0 rfl rfl rfl rfl (by simp [Value.oneCell']) (by simp [Value.cells]) ?_
    refine TL.nil ?_
    refine TQ.then_n ?_
    refine T.seq ?_
    refine T.seq ?_
    refine T.region ?_
    refine TL.fieldAddr hF rfl rfl ?_
    refine TL.load hF rfl (by first | exact At.own' (i := 0) rfl rfl | exact At.own' (i := 1) rfl rfl | exact At.own' (i := 2) rfl rfl | exact At.own' (i := 3) rfl rfl | exact At.own' (i := 4) rfl rfl | exact At.own' (i := 5) rfl rfl | exact At.own' (i := 6) rfl rfl | exact At.own' (i := 7) rfl rfl | exact At.own' (i := 8) rfl rfl | exact At.own' (i := 9) rfl rfl | exact At.own' (i := 10) rfl rfl | exact At.own' (i := 11) rfl rfl | exact At.own' (i := 12) rfl rfl) rfl ?_
    refine TL.len hF rfl rfl ?_
    refine TL.move hF rfl rfl ?_
    refine TL.nil ?_
    refine TQ.then_n ?_
    refine T.block ?_
    refine T.loop (ι := Nat) (fun k => k ≤ us.length ∧ aheadT (tx ps) (tx rs) = ((tx us).drop k).all (pastT (tx qs))) (fun k => [(4, .bool false), (5, ptr b5), (6, ptr b6), (20, .slice a3 us.length c3), (21, .int .i64 (us.length : Int)), (22, .int .i64 (k : Int))]) (fun _ => [(b7, Obj.cells #[.slice a3 us.length c3] 73 (0, 0))] :: [(b6, Obj.cells #[.slice a2 qs.length c2] 73 (0, 0))] :: [(b13, Obj.cells #[gc (a, ps, c), gc (b, rs, d)] 32 (0, 0))] :: [(b5, Obj.cells #[.int .i64 0] ERR (0, 0))] :: η) (fun k => us.length - k) 0 ⟨Nat.zero_le _, by rw [htq, htu]; rfl⟩ ⟨rfl, rfl, rfl, rfl, rfl, rfl, trivial⟩ rfl ?_
    rintro k ⟨hk, hs⟩
    refine T.seq ?_
    refine T.region ?_
    refine TL.bin hF rfl rfl rfl rfl ?_
    refine TL.nil ?_
    refine TQ.then_n ?_
    refine T.seq ?_
    first | refine T.cond_d rfl (fun ht23 => ?_) (fun ht23 => ?_) | refine T.cond _ rfl (fun ht23 => ?_) (fun ht23 => ?_)
    ·refine T.skip ?_
     refine TQ.then_n ?_
     refine T.seq ?_
     refine T.block ?_
     refine T.seq ?_
     refine T.region ?_
     refine TL.indexAddr hF rfl rfl (hu2.ad (i := k) (by omega)) (by omega) (by omega) rfl ?_
     refine TL.load hF rfl (hu2.ro.at (i := k) (by omega)) rfl ?_
     refine TL.assign hF rfl rfl ?_
     refine TL.nil ?_
     refine TQ.then_n ?_
     refine T.seq ?_
     refine T.region ?_
     refine TL.fieldAddr hF rfl rfl ?_
     refine TL.load hF rfl (At.own' (i := 1) rfl rfl) rfl ?_
     refine TL.move hF rfl rfl ?_
     have hku : k < us.length := by omega
     have e1 := aheadT_drop (f := tx qs) (g := tx us) (k := k) (by rw [tx_len]; omega)
     rw [tx_get hku] at e1
     refine TL.callV hF (beyond_fn hq2.ro (hu2.ro.it (i := k) hku) (by omega) (fun p hp => by rw [hwq p hp, hwu _ (List.getElem_mem hku)]) (by rw [hwu _ (List.getElem_mem hku)]; omega)) rfl rfl ?_
     refine TL.not hF rfl rfl ?_
     refine TL.nil ?_
     refine TQ.then_n ?_
     refine T.cond _ rfl (fun ht30 => ?_) (fun ht30 => ?_)
     all_goals simp only [Bool.not_eq_true', Bool.not_eq_false'] at ht30
     ·refine T.seq ?_
      refine T.region ?_
      refine TL.assign hF rfl rfl ?_
      refine TL.storeI hF 3 rfl rfl rfl rfl (by decide) ?_
      refine TL.nil ?_
      refine TQ.then_n ?_
      refine T.ret ?_
      refine TQ.block_r ?_
      refine TQ.then_r ?_
      refine TQ.then_r ?_
      refine TQ.block_r ?_
      refine TQ.then_r ?_
      have hahead : aheadT (tx ps) (tx rs) = false := by rw [hs, e1, ht30]; rfl
      refine TQ.thaw hz2 ?_
      refine TQ.thaw hz1 ?_
      refine TQ.retL [4] _ stop93 (stopped_nil _) rfl rfl rfl (own_mem (e := ERR) (fz := (0, 0)) (cs := #[.int .i64 0]) (by simp) rfl) ?_
      have e : aheadS (tx ps) (tx rs) = (false, 0) := by unfold aheadS; rw [hE, if_pos rfl, hahead]
      rw [e]
      exact ⟨rfl, segs ++ (segs2 ++ [_, _, _, _]), by rw [List.append_assoc, List.append_assoc]; rfl⟩
     ·refine T.skip ?_
      refine TQ.block_n ?_
      refine TQ.then_n ?_
      refine T.region ?_
      refine TL.add hF rfl rfl (by omega) (by omega) rfl ?_
      refine TL.move hF rfl rfl ?_
      refine TL.nil ?_
      refine TQ.round (k + 1) ⟨by omega, by rw [hs, e1, ht30, Bool.true_and]⟩ (by omega) ⟨rfl, rfl, rfl, rfl, rfl, rfl, trivial⟩ rfl
    ·refine T.exit ?_
     refine TQ.then_x ?_
     refine TQ.then_x ?_
     refine TQ.block_x ?_
     refine TQ.then_n ?_
     refine T.seq ?_
     refine T.region ?_
     refine TL.assign hF rfl rfl ?_
     refine TL.storeI hF 3 rfl rfl rfl rfl (by decide) ?_
     refine TL.nil ?_
     refine TQ.then_n ?_
     refine T.ret ?_
     have hahead : aheadT (tx ps) (tx rs) = true := by rw [hs, List.drop_of_length_le (by rw [tx_len]; omega)]; rfl
     refine TQ.thaw hz2 ?_
     refine TQ.thaw hz1 ?_
     refine TQ.retL [4] _ stop93 (stopped_nil _) rfl rfl rfl (own_mem (e := ERR) (fz := (0, 0)) (cs := #[.int .i64 0]) (by simp) rfl) ?_
     have e : aheadS (tx ps) (tx rs) = (true, 0) := by unfold aheadS; rw [hE, if_pos rfl, hahead]
     rw [e]
     exact ⟨rfl, segs ++ (segs2 ++ [_, _, _, _]), by rw [List.append_assoc, List.append_assoc]; rfl⟩
   ·rintro _ _ ⟨hfr2, rfl, rfl⟩
    rw [if_neg (fun q => hfr2 q.2)] at hE
    refine TQ.then_p ?_
    refine TQ.thaw hz1 ?_
    refine TQ.hsub ([(b5, Obj.cells #[.int .i64 0] ERR (0, 0))] :: η) (subR sub1) ?_
    refine TQ.panL [4] [.bool false] stop93 (stopped_err _) rfl rfl rfl (At.own' (i := 0) rfl rfl) ?_
    have e : aheadS (tx ps) (tx rs) = (false, 1) := by unfold aheadS; rw [hE, if_neg (by decide)]
    rw [e]
    exact ⟨rfl, [_], rfl⟩
  ·rintro _ _ ⟨hfr, rfl, rfl⟩
   rw [if_neg (fun q => hfr q.1)] at hE
   refine TQ.then_p ?_
   refine TQ.pop ?_
   refine TQ.panL [4] [.bool false] stop93 (stopped_err _) rfl rfl rfl (At.own' (i := 0) rfl rfl) ?_
   have e : aheadS (tx ps) (tx rs) = (false, 1) := by unfold aheadS; rw [hE, if_neg (by decide)]
   rw [e]
   exact ⟨rfl, [_], rfl⟩
 ·rintro _ _ ⟨hB, rfl, rfl⟩
  have hE := frontE_2 (f := ps) (g := rs) (gf := (a, ps, c)) (gg := (b, rs, d)) rfl rfl
  rw [if_neg (by intro h; rw [h] at hB; rcases hB with q | q <;> cases q)] at hE
  refine TQ.then_p ?_
  refine TQ.pop ?_
  refine TQ.panL [4] [.bool false] stop93 (stopped_err _) rfl rfl rfl (At.own' (i := 0) rfl rfl) ?_
  rw [← hE]
  have e : aheadS (tx ps) (tx rs) = (false, frontE (tx ps) (tx rs) []) := by unfold aheadS; rw [if_neg (by intro h; rw [h] at hE; rw [← hE] at hB; rcases hB with q | q <;> cases q)]
  rw [e]
  exact ⟨rfl, [_], rfl⟩
set_option maxHeartbeats 2000000 in
theorem Either_prog {a b : Option Addr} {ps rs : List HL} {c d : Nat} (hx : LL S w0 [] a ps) (hy : LL S w0 [] b rs) (hl : ps.length < 2 ^ 63) (hl2 : rs.length < 2 ^ 63) (hlx : ∀ p ∈ ps, p.2.1.length < 2 ^ 63) (hly : ∀ p ∈ rs, p.2.1.length < 2 ^ 63) :
  Rt Tryz.prog 31 [.slice a ps.length c, .slice b rs.length d].toArray S w0 η (ResL S w0 (eitherS (tx ps) (tx rs)) η) := by
 have hF := open_wide
 refine Rt.ofL (fn := Tryz.f31) Tryz.func31 rfl rfl ?_
 refine T.seq ?_
 refine T.region ?_
 refine TL.assign hF rfl rfl ?_
 refine TL.alloc hF rfl (fun b5 => ?_)
 refine TL.nil ?_
 refine TQ.then_n ?_
 refine T.seq ?_
 refine T.region ?_
 refine TL.makeFunc hF rfl rfl rfl ?_
 refine TL.defer hF rfl rfl ?_
 refine TL.nil ?_
 refine TQ.then_n ?_
 refine T.seq ?_
 refine T.region ?_
 refine TL.move hF rfl rfl ?_
 refine TL.move hF rfl rfl ?_
 refine TL.buildSlice hF rfl (cs := #[gc (a, ps, c), gc (b, rs, d)]) (e := 32) (fun w => by kernel_rfl) rfl (fun b11 => ?_)
 refine TL.callE hF (listed_fn (gs := [(a, ps, c), (b, rs, d)]) (more := []) (b := none) (d := 0) (L3.two hx.ro hy.ro (row_own (cs := [gc (a, ps, c), gc (b, rs, d)]) (e := 32) (by simp))) LL.none (by simp) (by simp) (by rw [catG_two]; exact fun p hp => (List.mem_append.1 hp).elim (hlx p) (hly p)) (by simp) (fun g hg => by simp only [List.mem_cons, List.not_mem_nil, or_false] at hg; rcases hg with rfl | rfl; exact hl; exact hl2)) rfl rfl ?_ ?_
 ·rintro _ _ ⟨hB, rfl⟩
  obtain ⟨hl3, hl4, hfit⟩ := list2_ok hB
  have hl3 : ps.length ≤ 200 := hl3
  have hl4 : rs.length ≤ 200 := hl4
  obtain ⟨w, hw4, hwid⟩ := fit_wid hfit
  have hwp : Wid w (tx ps) := (wid_app hwid).1
  have hwr : Wid w (tx rs) := (wid_app hwid).2
  have hE := frontE_2 (f := ps) (g := rs) (gf := (a, ps, c)) (gg := (b, rs, d)) rfl rfl
  rw [if_pos hB] at hE
  refine TL.nil ?_
  refine TQ.then_n ?_
  refine T.seq ?_
  refine T.region ?_
  refine TL.move hF rfl rfl ?_
  refine TL.callE hF (frontier_gen hx hl3 hwp hw4) rfl rfl ?_ ?_
  ·rintro _ _ ⟨hfr, a2, c2, qs, segs, rfl, htq, rfl, hll, hcap⟩
   refine TL.freeze segs rfl (fun S1 w1 hz1 => ?_)
   have hq1 := hll.frz hz1
   have hy1 := hy.old hz1
   have hql := tx_len_eq htq
   refine TL.move hF rfl rfl ?_
   refine TL.callE hF (frontier_gen hy1 hl4 hwr hw4) rfl rfl ?_ ?_
   ·rintro _ _ ⟨hfr2, a3, c3, us, segs2, rfl, htu, rfl, hll2, hcap2⟩
    rw [if_pos ⟨hfr, hfr2⟩] at hE
    refine TL.freeze segs2 rfl (fun S2 w2 hz2 => ?_)
    have hq2 := hq1.old hz2
    have hu2 := hll2.frz hz2
    have hul := tx_len_eq htu
    have hwq : ∀ p ∈ qs, p.2.1.length = w := wid_tx (htq ▸ hwp)
    have hwu : ∀ p ∈ us, p.2.1.length = w := wid_tx (htu ▸ hwr)
    refine TL.alloc hF rfl (fun b6 => ?_)
    refine TL.alloc hF rfl (fun b7 => ?_)
    refine TL.storeAI hF [.slice a2 qs.length c2] 1 rfl rfl rfl rfl (by simp [Value.oneCell']) (by simp [Value.cells]) ?_
    refine TL.storeAI hF [.slice a3 us.length c3] 0 rfl rfl rfl rfl (by simp [Value.oneCell']) (by simp [Value.cells]) ?_
    refine TL.nil ?_
    refine TQ.then_n ?_
    refine T.seq ?_
    refine T.drawH 10 mixed ?_
    refine DH.pure (i := 0) [(6, _, none)] rfl rfl rfl rfl ⟨⟨rfl, by kernel_rfl⟩, trivial⟩ (fun _ ext => TL.fieldAddr hF rfl rfl TL.fin) ?_
    refine DH.read (i := 1) [(17, _, some 0)] rfl rfl rfl rfl ⟨⟨rfl, rfl, rfl⟩, trivial⟩ (fun ext => TL.load hF rfl (At.own' (i := 1) rfl rfl) rfl TL.fin) ?_
    refine DH.pure (i := 3) [(7, _, none)] rfl rfl rfl rfl ⟨⟨rfl, by kernel_rfl⟩, trivial⟩ (fun _ ext => TL.fieldAddr hF rfl rfl TL.fin) ?_
    refine DH.read (i := 4) [(20, _, some 3)] rfl rfl rfl rfl ⟨⟨rfl, rfl, rfl⟩, trivial⟩ (fun ext => TL.load hF rfl (own_mem (e := 73) (fz := (0, 0)) (cs := #[.slice a3 us.length c3]) (by simp [Value.cells]) rfl) rfl TL.fin) ?_
    refine DH.k1 (by kernel_rfl) (by kernel_rfl) (by kernel_rfl) (by kernel_rfl) (HBK.mk (h := 2) [4] [(18, _, some 1)] rfl rfl rfl ⟨⟨rfl, rfl, rfl⟩, trivial⟩ (by kernel_rfl) (fun ext => ?_))
    refine TL.call hF (numbers_fn hq2.ro (by omega) (fun p hp => by rw [hwq p hp]; omega)) rfl rfl ?_
    rintro _ _ ⟨n1, m1, o1, g1, rfl, hol1, hto1, rfl⟩
    refine TL.finK ⟨⟨_, rfl, _, _, [(20, _, some 3)], rfl, rfl, ⟨⟨rfl, rfl, rfl⟩, trivial⟩, fun ext => TL.load hF rfl (own_mem (e := 73) (fz := (0, 0)) (cs := #[.slice a3 us.length c3]) (by simp [Value.cells]) rfl) rfl TL.fin⟩, trivial⟩ ?_
    refine DH.heavy 5 [(21, _, some 4)] (by kernel_rfl) (by kernel_rfl) (by kernel_rfl) (by kernel_rfl) rfl rfl rfl rfl ⟨⟨rfl, rfl, rfl⟩, trivial⟩ (by kernel_rfl) (fun ext => ?_)
    refine TL.call hF (numbers_fn hu2.ro (by omega) (fun p hp => by rw [hwu p hp]; omega)) rfl rfl ?_
    rintro _ _ ⟨n2, m2, o2, g2, rfl, hol2, hto2, rfl⟩
    refine TL.finD ?_
    refine DH.heavy 6 [(19, _, some 2), (22, _, some 5)] (by kernel_rfl) (by kernel_rfl) (by kernel_rfl) (by kernel_rfl) rfl rfl rfl rfl ⟨⟨rfl, rfl, rfl⟩, ⟨rfl, rfl, rfl⟩, trivial⟩ (by kernel_rfl) (fun ext => ?_)
    refine TL.buildSlice hF rfl (cs := #[.slice n1 o1.length m1, .slice n2 o2.length m2]) (e := 32) (fun w => by kernel_rfl) rfl (fun b23 => ?_)
    refine TL.finD ?_
    refine DH.heavy 7 [(23, _, some 6)] (by kernel_rfl) (by kernel_rfl) (by kernel_rfl) (by kernel_rfl) rfl rfl rfl rfl ⟨⟨rfl, rfl, rfl⟩, trivial⟩ (by kernel_rfl) (fun ext => ?_)
    have eg : ([gc (n1, o1.map (·.1), m1), gc (n2, o2.map (·.1), m2)] : List Value) = [.slice n1 o1.length m1, .slice n2 o2.length m2] := by simp [gc]
    have ht1 : tx (o1.map (·.1)) = tx qs := by simpa [tx, List.map_map, Function.comp_def] using hto1
    have ht2 : tx (o2.map (·.1)) = tx us := by simpa [tx, List.map_map, Function.comp_def] using hto2
    have hn1 : o1.length = qs.length := by have := tx_len_eq ht1; simpa using this
    have hn2 : o2.length = us.length := by have := tx_len_eq ht2; simpa using this
    have hl1 := hol1.ll (S := S2) (w0 := w2) (η := [(b23, Obj.cells #[.slice n1 o1.length m1, .slice n2 o2.length m2] 32 (0, 0))] :: g2 :: (o2.reverse.map (·.2) ++ g1 :: (o1.reverse.map (·.2) ++ [(b7, Obj.cells #[.slice a3 us.length c3] 73 (0, 0))] :: [(b6, Obj.cells #[.slice a2 qs.length c2] 73 (0, 0))] :: [(b11, Obj.cells #[gc (a, ps, c), gc (b, rs, d)] 32 (0, 0))] :: [(b5, Obj.cells #[.int .i64 0] ERR (0, 0))] :: η))) (by simp) (fun t ht => by simp only [List.mem_append, List.mem_cons, List.mem_map, List.mem_reverse]; right; right; right; right; left; exact ⟨t, ht, rfl⟩)
    have hl2' := hol2.ll (S := S2) (w0 := w2) (η := [(b23, Obj.cells #[.slice n1 o1.length m1, .slice n2 o2.length m2] 32 (0, 0))] :: g2 :: (o2.reverse.map (·.2) ++ g1 :: (o1.reverse.map (·.2) ++ [(b7, Obj.cells #[.slice a3 us.length c3] 73 (0, 0))] :: [(b6, Obj.cells #[.slice a2 qs.length c2] 73 (0, 0))] :: [(b11, Obj.cells #[gc (a, ps, c), gc (b, rs, d)] 32 (0, 0))] :: [(b5, Obj.cells #[.int .i64 0] ERR (0, 0))] :: η))) (by simp) (fun t ht => by simp only [List.mem_append, List.mem_cons, List.mem_map, List.mem_reverse]; right; right; left; exact ⟨t, ht, rfl⟩)
    have hg3 : L3 S2 w2 ([(b23, Obj.cells #[.slice n1 o1.length m1, .slice n2 o2.length m2] 32 (0, 0))] :: g2 :: (o2.reverse.map (·.2) ++ g1 :: (o1.reverse.map (·.2) ++ [(b7, Obj.cells #[.slice a3 us.length c3] 73 (0, 0))] :: [(b6, Obj.cells #[.slice a2 qs.length c2] 73 (0, 0))] :: [(b11, Obj.cells #[gc (a, ps, c), gc (b, rs, d)] 32 (0, 0))] :: [(b5, Obj.cells #[.int .i64 0] ERR (0, 0))] :: η))) (some ⟨b23, 0, none⟩) [(n1, o1.map (·.1), m1), (n2, o2.map (·.1), m2)] := L3.two hl1 hl2' (by rw [eg]; exact row_own (cs := [.slice n1 o1.length m1, .slice n2 o2.length m2]) (e := 32) List.mem_cons_self)
    refine TL.call hF (of_fn hg3 (by simp) (fun g hg => by simp only [List.mem_cons, List.not_mem_nil, or_false] at hg; rcases hg with rfl | rfl; show (o1.map _).length < _; rw [List.length_map]; omega; show (o2.map _).length < _; rw [List.length_map]; omega) (by rw [catG_two, List.length_append]; show (o1.map _).length + (o2.map _).length < _; rw [List.length_map, List.length_map]; omega) (w := w) (by rw [catG_two]; intro p hp; exact (List.mem_append.1 hp).elim (wid_tx (w := w) (by rw [ht1, htq]; exact hwp) p) (wid_tx (w := w) (by rw [ht2, htu]; exact hwr) p)) hw4) rfl rfl ?_
    rintro _ _ ⟨n3, m3, vs, segs3, rfl, htv, rfl, hll3, _⟩
    have htv2 : tx vs = sortT (tx ps ++ tx rs) := by rw [htv, catG_two, tx_append]; show sortT (tx (o1.map _) ++ tx (o2.map _)) = _; rw [ht1, ht2, htq, htu]
    have hwv : ∀ p ∈ vs, p.2.1.length = w := fun p hp => hwid _ (mem_sortT.1 (htv2 ▸ List.mem_map_of_mem hp))
    have hvl : vs.length ≤ 400 := by have := sortT_len (tx ps ++ tx rs); rw [← htv2, tx_len, List.length_append, tx_len, tx_len] at this; omega
    refine TL.finD ?_
    refine DH.pure (i := 8) [(24, _, some 7)] rfl rfl rfl rfl ⟨⟨rfl, rfl, rfl⟩, trivial⟩ (fun _ ext => TL.fieldR hF rfl (r := .slice n3 vs.length m3) (fun w => by kernel_rfl) rfl TL.fin) ?_
    refine DH.read (i := 9) [] rfl rfl rfl rfl trivial (fun ext => TL.callV hF (earlier_fn) rfl rfl TL.fin) ?_
    refine DH.done [(26, _), (25, _), (24, _), (23, _), (22, _), (19, _), (21, _), (20, _), (18, _), (17, _)] [_, _, _, _] (by kernel_rfl) (by kernel_rfl) (by kernel_rfl) (by kernel_rfl) rfl rfl ?_
    refine TL.call hF (outerE (hll3.up (fun z hz => List.mem_append_left _ hz)) (by omega) hwv (by omega)) rfl rfl ?_
    rintro _ _ ⟨n5, m5, sg, rfl, ho5, rfl⟩
    refine TL.freeze (sg :: (segs3 ++ ([(b23, Obj.cells #[.slice n1 o1.length m1, .slice n2 o2.length m2] 32 (0, 0))] :: g2 :: (o2.reverse.map (·.2) ++ g1 :: o1.reverse.map (·.2))))) (by simp only [List.append_assoc, List.cons_append]; rfl) (fun S3 w3 hz3 => ?_)
    have hr3 : LL S3 w3 [] n5 (outP tle vs) := ⟨(ho5.row (η := sg :: (segs3 ++ ([(b23, Obj.cells #[.slice n1 o1.length m1, .slice n2 o2.length m2] 32 (0, 0))] :: g2 :: (o2.reverse.map (·.2) ++ g1 :: o1.reverse.map (·.2))))) List.mem_cons_self).frz hz3, fun p hp => ((hll3.up (η' := sg :: (segs3 ++ ([(b23, Obj.cells #[.slice n1 o1.length m1, .slice n2 o2.length m2] 32 (0, 0))] :: g2 :: (o2.reverse.map (·.2) ++ g1 :: o1.reverse.map (·.2))))) (fun z hz => List.mem_cons_of_mem _ (List.mem_append_left _ hz))).item p (List.mem_filter.1 hp).1).frz hz3⟩
    have hrl : (outP tle vs).length ≤ vs.length := List.length_filter_le _ _
    refine TL.call hF (numbers_fn hr3.ro (by omega) (fun p hp => by rw [hwv p (List.mem_filter.1 hp).1]; omega)) rfl rfl ?_
    rintro _ _ ⟨n6, m6, outs, og, rfl, hol, hto, rfl⟩
    refine TL.freeze (og :: outs.reverse.map (·.2)) rfl (fun S4 w4 hz4 => ?_)
    refine TL.assign hF rfl rfl ?_
    refine TL.storeI hF 3 rfl rfl rfl rfl (by decide) ?_
    refine TL.nil ?_
    refine TQ.then_n ?_
    refine T.ret ?_
    refine TQ.thaw hz4 ?_
    refine TQ.thaw hz3 ?_
    refine TQ.thaw hz2 ?_
    refine TQ.thaw hz1 ?_
    have e : eitherS (tx ps) (tx rs) = (firstsT (tx ps ++ tx rs), 0) := by unfold eitherS; rw [hE, if_pos rfl]
    refine TQ.retL [4] _ stop92 (stopped_nil _) rfl rfl rfl (own_mem (e := ERR) (fz := (0, 0)) (cs := #[.int .i64 0]) (by simp [Value.cells]) rfl) ?_
    rw [e]
    refine ⟨n6, m6, outs.map (·.1), segs ++ (segs2 ++ ((sg :: (segs3 ++ ([(b23, Obj.cells #[.slice n1 o1.length m1, .slice n2 o2.length m2] 32 (0, 0))] :: g2 :: (o2.reverse.map (·.2) ++ g1 :: o1.reverse.map (·.2))))) ++ ((og :: outs.reverse.map (·.2)) ++ [_, _, _, _]))), by rw [List.length_map]; rfl, by rw [show firstsT (tx ps ++ tx rs) = tx (outP tle vs) from (tx_outer htv2).symm]; simpa [tx, List.map_map, Function.comp_def] using hto, hol.ll (List.mem_append_right _ (List.mem_append_right _ (List.mem_append_right _ (List.mem_append_left _ List.mem_cons_self)))) (fun t ht => List.mem_append_right _ (List.mem_append_right _ (List.mem_append_right _ (List.mem_append_left _ (List.mem_cons_of_mem _ (List.mem_map_of_mem (List.mem_reverse.2 ht))))))), by simp only [List.append_assoc, List.cons_append]; rfl⟩
   ·rintro _ _ ⟨hfr2, rfl, rfl⟩
    rw [if_neg (fun q => hfr2 q.2)] at hE
    refine TQ.then_p ?_
    refine TQ.thaw hz1 ?_
    refine TQ.hsub ([(b5, Obj.cells #[.int .i64 0] ERR (0, 0))] :: η) (subR sub1) ?_
    refine TQ.panL [4] [.slice none 0 0] stop92 (stopped_err _) rfl rfl rfl (At.own' (i := 0) rfl rfl) ?_
    have e : eitherS (tx ps) (tx rs) = ([], 1) := by unfold eitherS; rw [hE, if_neg (by decide)]
    rw [e]
    exact ⟨none, 0, [], [_], rfl, rfl, LL.none, rfl⟩
  ·rintro _ _ ⟨hfr, rfl, rfl⟩
   rw [if_neg (fun q => hfr q.1)] at hE
   refine TQ.then_p ?_
   refine TQ.pop ?_
   refine TQ.panL [4] [.slice none 0 0] stop92 (stopped_err _) rfl rfl rfl (At.own' (i := 0) rfl rfl) ?_
   have e : eitherS (tx ps) (tx rs) = ([], 1) := by unfold eitherS; rw [hE, if_neg (by decide)]
   rw [e]
   exact ⟨none, 0, [], [_], rfl, rfl, LL.none, rfl⟩
 ·rintro _ _ ⟨hB, rfl, rfl⟩
  have hE := frontE_2 (f := ps) (g := rs) (gf := (a, ps, c)) (gg := (b, rs, d)) rfl rfl
  rw [if_neg (by intro h; rw [h] at hB; rcases hB with q | q <;> cases q)] at hE
  refine TQ.then_p ?_
  refine TQ.pop ?_
  refine TQ.panL [4] [.slice none 0 0] stop92 (stopped_err _) rfl rfl rfl (At.own' (i := 0) rfl rfl) ?_
  rw [← hE]
  have e : eitherS (tx ps) (tx rs) = ([], frontE (tx ps) (tx rs) []) := by unfold eitherS; rw [if_neg (by intro h; rw [h] at hE; rw [← hE] at hB; rcases hB with q | q <;> cases q)]
  rw [e]
  exact ⟨none, 0, [], [_], rfl, rfl, LL.none, rfl⟩
end Go.Proofs.YteimjjpigohnhaaGreat
