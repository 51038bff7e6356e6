/- Several texts in one. -/
import Derived.Test.YtfnalecnnmkgbaaDoorTb
/- Leaves: what is refused and recovered; lists that are the same; where a number is. -/
namespace Go.Proofs.YtfnalecnnmkgbaaDoor
open Go.Sl
variable {S : Nat → Prop} {w0 : World} {η : Heap}
set_option maxHeartbeats 2000000 in
theorem stopped_nil (p : Value) :
  Rt Tryd.prog 32 [.nilIface, p].toArray S w0 η (fun _ η' => η' = η) := by
 have hF := open_wide
 refine Rt.of (fn := Tryd.f32) Tryd.func32 rfl rfl ?_
 refine T.seq ?_
 refine T.seq ?_
 refine T.region ?_
 refine TL.move hF rfl rfl ?_
 refine TL.binR hF rfl rfl (r := .bool true) (fun w => by kernel_rfl) rfl ?_
 refine TL.nil ?_
 refine TQ.then_n ?_
 refine T.cond_t rfl rfl ?_
 refine T.ret ?_
 refine TQ.then_r ?_
 refine TQ.rets [] _ rfl rfl rfl ?_
 rfl
set_option maxHeartbeats 2000000 in
theorem stopped_err (code : Int) {b : Nat} {old : Value} {η1 : Heap} :
  Rt Tryd.prog 32 [.iface 76 (.agg #[.int .i64 code]), .pointer (some ⟨b, 0, none⟩)].toArray S w0 ([(b, .cells #[old] 24 (0, 0))] :: η1) (fun _ η' => η' = [(b, .cells #[.int .i64 code] 24 (0, 0))] :: η1) := by
 have hF := open_wide
 refine Rt.of (fn := Tryd.f32) Tryd.func32 rfl rfl ?_
 refine T.seq ?_
 refine T.seq ?_
 refine T.region ?_
 refine TL.move hF rfl rfl ?_
 refine TL.binR hF rfl rfl (r := .bool false) (fun w => by kernel_rfl) rfl ?_
 refine TL.nil ?_
 refine TQ.then_n ?_
 refine T.cond_f rfl rfl ?_
 refine T.skip ?_
 refine TQ.then_n ?_
 refine T.seq ?_
 refine T.region ?_
 refine TL.move hF rfl rfl ?_
 refine TL.typeAssertR hF rfl (r := .tuple #[.agg #[.int .i64 code], .bool true]) (fun w => by kernel_rfl) rfl ?_
 refine TL.move hF rfl rfl ?_
 refine TL.extract hF rfl rfl rfl ?_
 refine TL.extract hF rfl rfl rfl ?_
 refine TL.alloc hF rfl (fun b4 => ?_)
 refine TL.storeAI hF [.int .i64 code] 0 rfl rfl rfl rfl (by simp [Value.oneCell']) (by simp [Value.cells]) ?_
 refine TL.assign hF rfl rfl ?_
 refine TL.nil ?_
 refine TQ.then_n ?_
 refine T.seq ?_
 refine T.seq ?_
 refine T.region ?_
 refine TL.move hF rfl rfl ?_
 refine TL.not hF rfl rfl ?_
 refine TL.nil ?_
 refine TQ.then_n ?_
 refine T.cond_f rfl rfl ?_
 refine T.skip ?_
 refine TQ.then_n ?_
 refine T.region ?_
 refine TL.move hF rfl rfl ?_
 refine TL.fieldAddr hF rfl rfl ?_
 refine TL.load hF rfl (by first | exact At.own' (i := 0) rfl rfl | exact At.own' (i := 1) rfl rfl | exact At.own' (i := 2) rfl rfl | exact At.own' (i := 3) rfl rfl | exact At.own' (i := 4) rfl rfl | exact At.own' (i := 5) rfl rfl | exact At.own' (i := 6) rfl rfl | exact At.own' (i := 7) rfl rfl | exact At.own' (i := 8) rfl rfl | exact At.own' (i := 9) rfl rfl | exact At.own' (i := 10) rfl rfl | exact At.own' (i := 11) rfl rfl | exact At.own' (i := 12) rfl rfl) rfl ?_
 refine TL.nilCheck hF rfl rfl ?_
 refine TL.storeI hF 1 rfl rfl rfl rfl (by simp) ?_
 refine TL.nil ?_
 refine TQ.norm ?_
 refine TQ.pop ?_
 refine TQ.rets [] _ rfl rfl rfl ?_
 rfl
abbrev stopV (code : Int) : List PanicEntry := [{ v := .iface 76 (.agg #[.int .i64 code]), recovered := false }]
abbrev ERR : Nat := 24
set_option maxHeartbeats 2000000 in
theorem must_ok (code : Int) :
  Rt Tryd.prog 55 [.bool true, .int .i64 code].toArray S w0 η (fun _ η' => η' = η) := by
 have hF := open_wide
 refine Rt.of (fn := Tryd.f55) Tryd.func55 rfl rfl ?_
 refine T.seq ?_
 refine T.region ?_
 refine TL.move hF rfl rfl ?_
 refine TL.not hF rfl rfl ?_
 refine TL.nil ?_
 refine TQ.then_n ?_
 refine T.cond_f rfl rfl ?_
 refine T.skip ?_
 refine TQ.norm ?_
 refine TQ.rets [] _ rfl rfl rfl ?_
 rfl
set_option maxHeartbeats 2000000 in
theorem must_no (code : Int) :
  RtE Tryd.prog 55 [.bool false, .int .i64 code].toArray S w0 η (fun _ _ => False) (fun ch η' => ch = stopV code ∧ η' = η) := by
 have hF := open_wide
 refine RtE.of (fn := Tryd.f55) Tryd.func55 rfl rfl ?_
 refine T.seq ?_
 refine T.region ?_
 refine TL.move hF rfl rfl ?_
 refine TL.not hF rfl rfl ?_
 refine TL.nil ?_
 refine TQ.then_n ?_
 refine T.cond_t rfl rfl ?_
 refine T.region ?_
 refine TL.move hF rfl rfl ?_
 refine TL.build hF rfl (r := .agg #[.int .i64 code]) (fun w => by kernel_rfl) rfl ?_
 refine TL.makeInterfaceR hF rfl (r := .iface 76 (.agg #[.int .i64 code])) (fun w => by kernel_rfl) rfl ?_
 refine TL.panic hF rfl ?_
 exact TQ.panicE ⟨rfl, rfl⟩ --stop
theorem must_fn (is : Bool) (code : Int) : RtE Tryd.prog 55 [.bool is, .int .i64 code].toArray S w0 η (fun _ η' => is = true ∧ η' = η) (fun ch η' => is = false ∧ ch = stopV code ∧ η' = η) := by
 cases is
 ·exact (must_no code).mono (fun _ _ (h : False) => h.elim) (fun _ _ h => ⟨rfl, h⟩)
 ·exact (must_ok code).toE.mono (fun _ _ h => ⟨rfl, h⟩) (fun _ _ (h : False) => h.elim)
theorem stop31 : StopC Tryd.prog 31 32 := ⟨_, _, _, _, _, _, _, _, _, _, Tryd.func31, rfl, rfl, rfl⟩
theorem stop36 : StopC Tryd.prog 36 32 := ⟨_, _, _, _, _, _, _, _, _, _, Tryd.func36, rfl, rfl, rfl⟩
theorem stop42 : StopC Tryd.prog 42 32 := ⟨_, _, _, _, _, _, _, _, _, _, Tryd.func42, rfl, rfl, rfl⟩
theorem stop45 : StopC Tryd.prog 45 32 := ⟨_, _, _, _, _, _, _, _, _, _, Tryd.func45, rfl, rfl, rfl⟩
theorem stop53 : StopC Tryd.prog 53 32 := ⟨_, _, _, _, _, _, _, _, _, _, Tryd.func53, rfl, rfl, rfl⟩
theorem stop54 : StopC Tryd.prog 54 32 := ⟨_, _, _, _, _, _, _, _, _, _, Tryd.func54, rfl, rfl, rfl⟩
set_option maxHeartbeats 2000000 in
theorem Equal_fn {a b : Option Addr} {xs ys : List Int} {ca cb : Nat} (hx : Row S w0 η a (ints xs)) (hy : Row S w0 η b (ints ys)) (hl : xs.length < 2 ^ 63) :
  Rt Tryd.prog 23 [.slice a xs.length ca, .slice b ys.length cb].toArray S w0 η (fun v η' => v = .bool (decide (xs = ys)) ∧ η' = η) := by
 have hF := open_wide
 refine Rt.of (fn := Tryd.f23) Tryd.func23 rfl rfl ?_
 refine T.seq ?_
 refine T.region ?_
 refine TL.assign hF rfl rfl ?_
 refine TL.nil ?_
 refine TQ.then_n ?_
 refine T.seq ?_
 refine T.region ?_
 refine TL.move hF rfl rfl ?_
 refine TL.len hF rfl rfl ?_
 refine TL.move hF rfl rfl ?_
 refine TL.len hF rfl rfl ?_
 refine TL.bin hF rfl rfl rfl rfl ?_
 refine TL.assign hF rfl rfl ?_
 refine TL.nil ?_
 refine TQ.then_n ?_
 refine T.seq ?_
 refine T.seq ?_
 refine T.region ?_
 refine TL.assign hF rfl rfl ?_
 refine TL.nil ?_
 refine TQ.then_n ?_
 refine T.block ?_
 refine T.loop (ι := Nat × Bool) (fun i => i.1 ≤ xs.length ∧ (i.2 = true → xs.length = ys.length ∧ xs.take i.1 = ys.take i.1) ∧ (i.2 = false → xs ≠ ys)) (fun i => [(0, .slice a xs.length ca), (1, .slice b ys.length cb), (5, .bool i.2), (6, .int .i64 (i.1 : Int))]) (fun _ => η) (fun i => xs.length - i.1) (0, decide ((xs.length : Int) = ys.length)) ⟨Nat.zero_le _, fun h => ⟨by simpa [Int.ofNat_inj] using h, by simp⟩, fun h e => by subst e; simp at h⟩ ⟨rfl, rfl, rfl, rfl, trivial⟩ rfl ?_
 rintro ⟨k, s⟩ ⟨hk, hs1, hs2⟩
 simp only at hk hs1 hs2
 refine T.seq ?_
 refine T.seq ?_
 refine T.region ?_
 refine TL.move hF rfl rfl ?_
 refine TL.move hF rfl rfl ?_
 refine TL.gb (t := 13) rfl (fun g3_13 => ?_) (fun g3_13 => ?_)
 ·refine TL.on rfl rfl rfl g3_13 ?_
  refine TL.move hF rfl rfl ?_
  refine TL.on rfl rfl rfl g3_13 ?_
  refine TL.move hF rfl rfl ?_
  refine TL.on rfl rfl rfl g3_13 ?_
  refine TL.len hF rfl rfl ?_
  refine TL.on rfl rfl rfl g3_13 ?_
  refine TL.bin hF rfl rfl rfl rfl ?_
  refine TL.pickT hF rfl g3_13 rfl rfl ?_
  refine TL.nil ?_
  refine TQ.then_n ?_
  first | refine T.cond_d rfl (fun ht18 => ?_) (fun ht18 => ?_) | refine T.cond _ rfl (fun ht18 => ?_) (fun ht18 => ?_)
  ·refine T.skip ?_
   refine TQ.then_n ?_
   refine T.seq ?_
   refine T.block ?_
   refine T.draw ?_
   refine DR.stepV [_] rfl [(0, _, none)] rfl rfl ⟨⟨rfl, by kernel_rfl⟩, trivial⟩ (fun ext => TL.move hF rfl rfl TL.fin) ?_
   refine DR.stepV [_, _] rfl [(6, _, none)] rfl rfl ⟨⟨rfl, by kernel_rfl⟩, trivial⟩ (fun ext => TL.move hF rfl rfl TL.fin) ?_
   refine DR.stepV [_, _, _] rfl [(21, _, some 0), (22, _, some 1)] rfl rfl ⟨⟨rfl, rfl, rfl⟩, ⟨rfl, rfl, rfl⟩, trivial⟩ (fun ext => TL.indexAddr hF rfl rfl (hx.adi (i := k) (by simp; omega)) (by omega) (by omega) rfl TL.fin) ?_
   refine DR.stepV [_, _, _, _] rfl [(23, _, some 2)] rfl rfl ⟨⟨rfl, rfl, rfl⟩, trivial⟩ (fun ext => TL.load hF rfl (hx.int (i := k) (by omega)) rfl TL.fin) ?_
   refine DR.stepV [_, _, _, _, _] rfl [(1, _, none)] rfl rfl ⟨⟨rfl, by kernel_rfl⟩, trivial⟩ (fun ext => TL.move hF rfl rfl TL.fin) ?_
   refine DR.stepV [_, _, _, _, _, _] rfl [(6, _, none)] rfl rfl ⟨⟨rfl, by kernel_rfl⟩, trivial⟩ (fun ext => TL.move hF rfl rfl TL.fin) ?_
   refine DR.stepV [_, _, _, _, _, _, _] rfl [(25, _, some 4), (26, _, some 5)] rfl rfl ⟨⟨rfl, rfl, rfl⟩, ⟨rfl, rfl, rfl⟩, trivial⟩ (fun ext => TL.indexAddr hF rfl rfl (hy.adi (i := k) (by simp; have := (hs1 g3_13).1; omega)) (by omega) (by have := (hs1 g3_13).1; omega) rfl TL.fin) ?_
   refine DR.stepV [_, _, _, _, _, _, _, _] rfl [(27, _, some 6)] rfl rfl ⟨⟨rfl, rfl, rfl⟩, trivial⟩ (fun ext => TL.load hF rfl (hy.int (i := k) (by have := (hs1 g3_13).1; omega)) rfl TL.fin) ?_
   refine DR.done [(28, _), (27, _), (26, _), (25, _), (24, _), (23, _), (22, _), (21, _)] [_, _] mixed (by kernel_rfl) (by kernel_rfl) (by kernel_rfl) rfl rfl ?_
   refine TL.bin hF rfl rfl rfl rfl ?_
   refine TL.assign hF rfl rfl ?_
   refine TL.nil ?_
   refine TQ.block_n ?_
   refine TQ.then_n ?_
   refine T.region ?_
   refine TL.move hF rfl rfl ?_
   refine TL.add hF rfl rfl (by omega) (by omega) rfl ?_
   refine TL.assign hF rfl rfl ?_
   refine TL.nil ?_
   refine TQ.round (k + 1, decide (xs[k]'(by omega) = ys[k]'(by have := (hs1 g3_13).1; omega))) ⟨by simp only; omega, fun h => ⟨(hs1 g3_13).1, take_succ_eq _ _ (hs1 g3_13).2 (of_decide_eq_true h)⟩, fun h => ne_of_getElem _ _ (of_decide_eq_false h)⟩ (by simp only; omega) ⟨rfl, rfl, rfl, rfl, trivial⟩ rfl
  ·refine T.exit ?_
   refine TQ.then_x ?_
   refine TQ.then_x ?_
   refine TQ.block_x ?_
   refine TQ.then_n ?_
   refine T.seq ?_
   refine T.region ?_
   refine TL.move hF rfl rfl ?_
   refine TL.assign hF rfl rfl ?_
   refine TL.nil ?_
   refine TQ.then_n ?_
   refine T.ret ?_
   refine TQ.rets [4] _ rfl rfl rfl ?_
   subst g3_13
   have h1 := hs1 rfl
   have h2 : xs = ys := by have := h1.2; rwa [List.take_of_length_le (by omega), List.take_of_length_le (by omega)] at this
   exact ⟨by simp [retVal, h2], rfl⟩
 ·refine TL.off hF rfl rfl rfl g3_13 rfl ?_
  refine TL.off hF rfl rfl rfl g3_13 rfl ?_
  refine TL.off hF rfl rfl rfl g3_13 rfl ?_
  refine TL.off hF rfl rfl rfl g3_13 rfl ?_
  refine TL.pickF hF rfl g3_13 rfl rfl ?_
  refine TL.nil ?_
  refine TQ.then_n ?_
  refine T.cond_f rfl rfl ?_
  refine T.exit ?_
  refine TQ.then_x ?_
  refine TQ.then_x ?_
  refine TQ.block_x ?_
  refine TQ.then_n ?_
  refine T.seq ?_
  refine T.region ?_
  refine TL.move hF rfl rfl ?_
  refine TL.assign hF rfl rfl ?_
  refine TL.nil ?_
  refine TQ.then_n ?_
  refine T.ret ?_
  refine TQ.rets [4] _ rfl rfl rfl ?_
  subst g3_13
  exact ⟨by simp [retVal, hs2 rfl], rfl⟩
set_option maxHeartbeats 2000000 in
theorem EqualLists_fn {a b : Option Addr} {ps qs : List HL} {ca cb : Nat} (hx : LL S w0 η a ps) (hy : LL S w0 η b qs) (hl : ps.length < 2 ^ 63) (hlx : ∀ p ∈ ps, p.2.1.length < 2 ^ 63) :
  Rt Tryd.prog 22 [.slice a ps.length ca, .slice b qs.length cb].toArray S w0 η (fun v η' => v = .bool (decide (tx ps = tx qs)) ∧ η' = η) := by
 have hF := open_wide
 refine Rt.of (fn := Tryd.f22) Tryd.func22 rfl rfl ?_
 refine T.seq ?_
 refine T.region ?_
 refine TL.assign hF rfl rfl ?_
 refine TL.nil ?_
 refine TQ.then_n ?_
 refine T.seq ?_
 refine T.region ?_
 refine TL.move hF rfl rfl ?_
 refine TL.len hF rfl rfl ?_
 refine TL.move hF rfl rfl ?_
 refine TL.len hF rfl rfl ?_
 refine TL.bin hF rfl rfl rfl rfl ?_
 refine TL.assign hF rfl rfl ?_
 refine TL.nil ?_
 refine TQ.then_n ?_
 refine T.seq ?_
 refine T.seq ?_
 refine T.region ?_
 refine TL.assign hF rfl rfl ?_
 refine TL.nil ?_
 refine TQ.then_n ?_
 refine T.block ?_
 refine T.loop (ι := Nat × Bool) (fun i => i.1 ≤ ps.length ∧ (i.2 = true → ps.length = qs.length ∧ (tx ps).take i.1 = (tx qs).take i.1) ∧ (i.2 = false → tx ps ≠ tx qs)) (fun i => [(0, .slice a ps.length ca), (1, .slice b qs.length cb), (5, .bool i.2), (6, .int .i64 (i.1 : Int))]) (fun _ => η) (fun i => ps.length - i.1) (0, decide ((ps.length : Int) = qs.length)) ⟨Nat.zero_le _, fun h => ⟨by simpa [Int.ofNat_inj] using h, by simp⟩, fun h e => by have e2 := congrArg List.length e; rw [tx_len, tx_len] at e2; simp [e2] at h⟩ ⟨rfl, rfl, rfl, rfl, trivial⟩ rfl ?_
 rintro ⟨k, s⟩ ⟨hk, hs1, hs2⟩
 simp only at hk hs1 hs2
 refine T.seq ?_
 refine T.seq ?_
 refine T.region ?_
 refine TL.move hF rfl rfl ?_
 refine TL.move hF rfl rfl ?_
 refine TL.gb (t := 13) rfl (fun g3_13 => ?_) (fun g3_13 => ?_)
 ·refine TL.on rfl rfl rfl g3_13 ?_
  refine TL.move hF rfl rfl ?_
  refine TL.on rfl rfl rfl g3_13 ?_
  refine TL.move hF rfl rfl ?_
  refine TL.on rfl rfl rfl g3_13 ?_
  refine TL.len hF rfl rfl ?_
  refine TL.on rfl rfl rfl g3_13 ?_
  refine TL.bin hF rfl rfl rfl rfl ?_
  refine TL.pickT hF rfl g3_13 rfl rfl ?_
  refine TL.nil ?_
  refine TQ.then_n ?_
  first | refine T.cond_d rfl (fun ht18 => ?_) (fun ht18 => ?_) | refine T.cond _ rfl (fun ht18 => ?_) (fun ht18 => ?_)
  ·refine T.skip ?_
   refine TQ.then_n ?_
   refine T.seq ?_
   refine T.block ?_
   refine T.draw ?_
   refine DR.stepV [_] rfl [(0, _, none)] rfl rfl ⟨⟨rfl, by kernel_rfl⟩, trivial⟩ (fun ext => TL.move hF rfl rfl TL.fin) ?_
   refine DR.stepV [_, _] rfl [(6, _, none)] rfl rfl ⟨⟨rfl, by kernel_rfl⟩, trivial⟩ (fun ext => TL.move hF rfl rfl TL.fin) ?_
   refine DR.stepV [_, _, _] rfl [(21, _, some 0), (22, _, some 1)] rfl rfl ⟨⟨rfl, rfl, rfl⟩, ⟨rfl, rfl, rfl⟩, trivial⟩ (fun ext => TL.indexAddr hF rfl rfl (hx.ad (i := k) (by omega)) (by omega) (by omega) rfl TL.fin) ?_
   refine DR.stepV [_, _, _, _] rfl [(23, _, some 2)] rfl rfl ⟨⟨rfl, rfl, rfl⟩, trivial⟩ (fun ext => TL.load hF rfl (hx.at (i := k) (by omega)) rfl TL.fin) ?_
   refine DR.stepV [_, _, _, _, _] rfl [(1, _, none)] rfl rfl ⟨⟨rfl, by kernel_rfl⟩, trivial⟩ (fun ext => TL.move hF rfl rfl TL.fin) ?_
   refine DR.stepV [_, _, _, _, _, _] rfl [(6, _, none)] rfl rfl ⟨⟨rfl, by kernel_rfl⟩, trivial⟩ (fun ext => TL.move hF rfl rfl TL.fin) ?_
   refine DR.stepV [_, _, _, _, _, _, _] rfl [(25, _, some 4), (26, _, some 5)] rfl rfl ⟨⟨rfl, rfl, rfl⟩, ⟨rfl, rfl, rfl⟩, trivial⟩ (fun ext => TL.indexAddr hF rfl rfl (hy.ad (i := k) (by have := (hs1 g3_13).1; omega)) (by omega) (by have := (hs1 g3_13).1; omega) rfl TL.fin) ?_
   refine DR.stepV [_, _, _, _, _, _, _, _] rfl [(27, _, some 6)] rfl rfl ⟨⟨rfl, rfl, rfl⟩, trivial⟩ (fun ext => TL.load hF rfl (hy.at (i := k) (by have := (hs1 g3_13).1; omega)) rfl TL.fin) ?_
   refine DR.done [(28, _), (27, _), (26, _), (25, _), (24, _), (23, _), (22, _), (21, _)] [_, _] mixed (by kernel_rfl) (by kernel_rfl) (by kernel_rfl) rfl rfl ?_
   refine TL.callV hF (Equal_fn (hx.it (by omega)) (hy.it (by have := (hs1 g3_13).1; omega)) (hlx _ (List.getElem_mem _))) rfl rfl ?_
   refine TL.assign hF rfl rfl ?_
   refine TL.nil ?_
   refine TQ.block_n ?_
   refine TQ.then_n ?_
   refine T.region ?_
   refine TL.move hF rfl rfl ?_
   refine TL.add hF rfl rfl (by omega) (by omega) rfl ?_
   refine TL.assign hF rfl rfl ?_
   refine TL.nil ?_
   have hq : k < qs.length := by have := (hs1 g3_13).1; omega
   refine TQ.round (k + 1, decide ((ps[k]'(by omega)).2.1 = (qs[k]'hq).2.1)) ⟨by simp only; omega, fun h => ⟨(hs1 g3_13).1, take_succ_eq (by rw [tx_len]; omega) (by rw [tx_len]; omega) (hs1 g3_13).2 (by rw [tx_get (by omega), tx_get hq]; exact of_decide_eq_true h)⟩, fun h => ne_of_getElem (k := k) (by rw [tx_len]; omega) (by rw [tx_len]; omega) (by rw [tx_get (by omega), tx_get hq]; exact of_decide_eq_false h)⟩ (by simp only; omega) ⟨rfl, rfl, rfl, rfl, trivial⟩ rfl
  ·refine T.exit ?_
   refine TQ.then_x ?_
   refine TQ.then_x ?_
   refine TQ.block_x ?_
   refine TQ.then_n ?_
   refine T.seq ?_
   refine T.region ?_
   refine TL.move hF rfl rfl ?_
   refine TL.assign hF rfl rfl ?_
   refine TL.nil ?_
   refine TQ.then_n ?_
   refine T.ret ?_
   refine TQ.rets [4] _ rfl rfl rfl ?_
   subst g3_13
   have h1 := hs1 rfl
   have h2 : tx ps = tx qs := by have := h1.2; rwa [List.take_of_length_le (by rw [tx_len]; omega), List.take_of_length_le (by rw [tx_len]; omega)] at this
   exact ⟨by simp [retVal, h2], rfl⟩
 ·refine TL.off hF rfl rfl rfl g3_13 rfl ?_
  refine TL.off hF rfl rfl rfl g3_13 rfl ?_
  refine TL.off hF rfl rfl rfl g3_13 rfl ?_
  refine TL.off hF rfl rfl rfl g3_13 rfl ?_
  refine TL.pickF hF rfl g3_13 rfl rfl ?_
  refine TL.nil ?_
  refine TQ.then_n ?_
  refine T.cond_f rfl rfl ?_
  refine T.exit ?_
  refine TQ.then_x ?_
  refine TQ.then_x ?_
  refine TQ.block_x ?_
  refine TQ.then_n ?_
  refine T.seq ?_
  refine T.region ?_
  refine TL.move hF rfl rfl ?_
  refine TL.assign hF rfl rfl ?_
  refine TL.nil ?_
  refine TQ.then_n ?_
  refine T.ret ?_
  refine TQ.rets [4] _ rfl rfl rfl ?_
  subst g3_13
  exact ⟨by simp [retVal, hs2 rfl], rfl⟩
/-- Where a number is first; below 0: nowhere. -/
def whereI (l : List Int) (n : Int) : Int := match l.findIdx? (fun x => decide (x = n)) with | some i => (i : Int) | none => -1
theorem whereI_at {l : List Int} {n : Int} {k : Nat} (hk : k < l.length) (he : l[k] = n) (hne : ∀ x ∈ l.take k, x ≠ n) : whereI l n = (k : Int) := by
 unfold whereI
 have h : l.findIdx? (fun x => decide (x = n)) = some k := by
  rw [List.findIdx?_eq_some_iff_getElem]
  refine ⟨hk, decide_eq_true he, fun j hj => ?_⟩
  simp only [decide_eq_true_eq]
  exact hne _ (List.mem_take_iff_getElem.2 ⟨j, by omega, rfl⟩)
 rw [h]
theorem whereI_none {l : List Int} {n : Int} (hne : ∀ x ∈ l, x ≠ n) : whereI l n = -1 := by
 unfold whereI
 have h : l.findIdx? (fun x => decide (x = n)) = none := by
  rw [List.findIdx?_eq_none_iff]
  intro x hx
  exact decide_eq_false (hne x hx)
 rw [h]
theorem whereI_mem {l : List Int} {n : Int} : decide (0 ≤ whereI l n) = decide (n ∈ l) := by
 unfold whereI
 cases h : l.findIdx? (fun x => decide (x = n)) with
 | none =>
  rw [List.findIdx?_eq_none_iff] at h
  show decide ((0 : Int) ≤ -1) = _
  rw [decide_eq_false (by omega), decide_eq_false]
  intro hm; have := h n hm; simp at this
 | some i =>
  rw [List.findIdx?_eq_some_iff_getElem] at h
  obtain ⟨hi, he, _⟩ := h
  show decide ((0 : Int) ≤ (i : Int)) = _
  rw [decide_eq_true (by omega), decide_eq_true]
  rw [← of_decide_eq_true he]; exact List.getElem_mem hi
set_option maxHeartbeats 2000000 in
theorem Index_fn {a : Option Addr} {xs : List Int} {c : Nat} (n : Int) (hx : Row S w0 η a (ints xs)) (hl : xs.length < 2 ^ 63) :
  Rt Tryd.prog 70 [.slice a xs.length c, .int .i64 n].toArray S w0 η (fun v η' => v = .int .i64 (whereI xs n) ∧ η' = η) := by
 have hF := open_wide
 refine Rt.of (fn := Tryd.f70) Tryd.func70 rfl rfl ?_
 refine T.seq ?_
 refine T.region ?_
 refine TL.assign hF rfl rfl ?_
 refine TL.nil ?_
 refine TQ.then_n ?_
 refine T.seq ?_
 refine T.seq ?_
 refine T.region ?_
 refine TL.move hF rfl rfl ?_
 refine TL.len hF rfl rfl ?_
 refine TL.move hF rfl rfl ?_
 refine TL.nil ?_
 refine TQ.then_n ?_
 refine T.block ?_
 refine T.loop (ι := Nat) (fun k => k ≤ xs.length ∧ ∀ x ∈ xs.take k, x ≠ n) (fun k => [(0, .slice a xs.length c), (1, .int .i64 n), (4, .int .i64 0), (7, .int .i64 (xs.length : Int)), (8, .int .i64 (k : Int))]) (fun _ => η) (fun k => xs.length - k) 0 ⟨Nat.zero_le _, by simp⟩ ⟨rfl, rfl, rfl, rfl, rfl, trivial⟩ rfl ?_
 rintro k ⟨hk, hne⟩
 refine T.seq ?_
 refine T.region ?_
 refine TL.bin hF rfl rfl rfl rfl ?_
 refine TL.nil ?_
 refine TQ.then_n ?_
 refine T.seq ?_
 first | refine T.cond_d rfl (fun ht9 => ?_) (fun ht9 => ?_) | refine T.cond _ rfl (fun ht9 => ?_) (fun ht9 => ?_)
 ·refine T.skip ?_
  refine TQ.then_n ?_
  refine T.seq ?_
  refine T.block ?_
  refine T.seq ?_
  refine T.region ?_
  refine TL.move hF rfl rfl ?_
  refine TL.assign hF rfl rfl ?_
  refine TL.nil ?_
  refine TQ.then_n ?_
  refine T.seq ?_
  refine T.region ?_
  refine TL.move hF rfl rfl ?_
  refine TL.move hF rfl rfl ?_
  refine TL.move hF rfl rfl ?_
  have hkl : k < xs.length := by omega
  refine TL.indexAddr hF rfl rfl (hx.adi (i := k) (by simp; omega)) (by omega) (by omega) rfl ?_
  refine TL.load hF rfl (hx.int (i := k) hkl) rfl ?_
  refine TL.bin hF rfl rfl rfl rfl ?_
  refine TL.nil ?_
  refine TQ.then_n ?_
  first | refine T.cond_d rfl (fun ht16 => ?_) (fun ht16 => ?_) | refine T.cond _ rfl (fun ht16 => ?_) (fun ht16 => ?_)
  ·refine T.seq ?_
   refine T.region ?_
   refine TL.move hF rfl rfl ?_
   refine TL.assign hF rfl rfl ?_
   refine TL.nil ?_
   refine TQ.then_n ?_
   refine T.ret ?_
   refine TQ.block_r ?_
   refine TQ.then_r ?_
   refine TQ.then_r ?_
   refine TQ.block_r ?_
   refine TQ.then_r ?_
   refine TQ.rets [4] _ rfl rfl rfl ?_
   exact ⟨by rw [whereI_at (k := k) (by omega) ht16.symm hne]; rfl, rfl⟩
  ·refine T.skip ?_
   refine TQ.block_n ?_
   refine TQ.then_n ?_
   refine T.region ?_
   refine TL.add hF rfl rfl (by omega) (by omega) rfl ?_
   refine TL.move hF rfl rfl ?_
   refine TL.nil ?_
   refine TQ.round (k + 1) ⟨by omega, fun x hx => ?_⟩ (by omega) ⟨rfl, rfl, rfl, rfl, rfl, trivial⟩ rfl
   rw [List.take_succ_eq_append_getElem (by omega)] at hx
   rcases List.mem_append.1 hx with h | h
   ·exact hne x h
   ·rw [List.mem_singleton.1 h]; intro e; exact ht16 e.symm
 ·refine T.exit ?_
  refine TQ.then_x ?_
  refine TQ.then_x ?_
  refine TQ.block_x ?_
  refine TQ.then_n ?_
  refine T.seq ?_
  refine T.region ?_
  refine TL.assign hF rfl rfl ?_
  refine TL.nil ?_
  refine TQ.then_n ?_
  refine T.ret ?_
  refine TQ.rets [4] _ rfl rfl rfl ?_
  exact ⟨by rw [whereI_none (fun x hx2 => hne x (by rw [List.take_of_length_le (by omega)]; exact hx2))]; rfl, rfl⟩
set_option maxHeartbeats 2000000 in
theorem Contains_fn {a : Option Addr} {xs : List Int} {c : Nat} (n : Int) (hx : Row S w0 η a (ints xs)) (hl : xs.length < 2 ^ 63) :
  Rt Tryd.prog 58 [.slice a xs.length c, .int .i64 n].toArray S w0 η (fun v η' => v = .bool (decide (n ∈ xs)) ∧ η' = η) := by
 have hF := open_wide
 refine Rt.of (fn := Tryd.f58) Tryd.func58 rfl rfl ?_
 refine T.seq ?_
 refine T.region ?_
 refine TL.assign hF rfl rfl ?_
 refine TL.nil ?_
 refine TQ.then_n ?_
 refine T.seq ?_
 refine T.region ?_
 refine TL.move hF rfl rfl ?_
 refine TL.move hF rfl rfl ?_
 refine TL.callV hF (Index_fn n hx hl) rfl rfl ?_
 refine TL.bin hF rfl rfl rfl rfl ?_
 refine TL.assign hF rfl rfl ?_
 refine TL.nil ?_
 refine TQ.then_n ?_
 refine T.ret ?_
 refine TQ.rets [4] _ rfl rfl rfl ?_
 exact ⟨by rw [← whereI_mem]; rfl, rfl⟩
set_option maxHeartbeats 2000000 in
theorem Where_fn {a : Option Addr} {xs : List Int} {c : Nat} (n : Int) (hx : Row S w0 η a (ints xs)) (hl : xs.length < 2 ^ 63) :
  Rt Tryd.prog 30 [.slice a xs.length c, .int .i64 n].toArray S w0 η (fun v η' => v = .int .i64 (whereI xs n) ∧ η' = η) := by
 have hF := open_wide
 refine Rt.of (fn := Tryd.f30) Tryd.func30 rfl rfl ?_
 refine T.seq ?_
 refine T.region ?_
 refine TL.assign hF rfl rfl ?_
 refine TL.nil ?_
 refine TQ.then_n ?_
 refine T.seq ?_
 refine T.seq ?_
 refine T.region ?_
 refine TL.assign hF rfl rfl ?_
 refine TL.nil ?_
 refine TQ.then_n ?_
 refine T.block ?_
 refine T.loop (ι := Nat) (fun k => k ≤ xs.length ∧ ∀ x ∈ xs.take k, x ≠ n) (fun k => [(0, .slice a xs.length c), (1, .int .i64 n), (4, .int .i64 0), (5, .int .i64 (k : Int))]) (fun _ => η) (fun k => xs.length - k) 0 ⟨Nat.zero_le _, by simp⟩ ⟨rfl, rfl, rfl, rfl, trivial⟩ rfl ?_
 rintro k ⟨hk, hne⟩
 refine T.seq ?_
 refine T.seq ?_
 refine T.region ?_
 refine TL.move hF rfl rfl ?_
 refine TL.move hF rfl rfl ?_
 refine TL.len hF rfl rfl ?_
 refine TL.bin hF rfl rfl rfl rfl ?_
 refine TL.nil ?_
 refine TQ.then_n ?_
 first | refine T.cond_d rfl (fun ht9 => ?_) (fun ht9 => ?_) | refine T.cond _ rfl (fun ht9 => ?_) (fun ht9 => ?_)
 ·refine T.skip ?_
  refine TQ.then_n ?_
  refine T.seq ?_
  refine T.block ?_
  refine T.seq ?_
  refine T.region ?_
  refine TL.move hF rfl rfl ?_
  refine TL.move hF rfl rfl ?_
  have hkl : k < xs.length := by omega
  refine TL.indexAddr hF rfl rfl (hx.adi (i := k) (by simp; omega)) (by omega) (by omega) rfl ?_
  refine TL.load hF rfl (hx.int (i := k) hkl) rfl ?_
  refine TL.move hF rfl rfl ?_
  refine TL.bin hF rfl rfl rfl rfl ?_
  refine TL.nil ?_
  refine TQ.then_n ?_
  first | refine T.cond_d rfl (fun ht17 => ?_) (fun ht17 => ?_) | refine T.cond _ rfl (fun ht17 => ?_) (fun ht17 => ?_)
  ·refine T.seq ?_
   refine T.region ?_
   refine TL.move hF rfl rfl ?_
   refine TL.assign hF rfl rfl ?_
   refine TL.nil ?_
   refine TQ.then_n ?_
   refine T.ret ?_
   refine TQ.block_r ?_
   refine TQ.then_r ?_
   refine TQ.then_r ?_
   refine TQ.block_r ?_
   refine TQ.then_r ?_
   refine TQ.rets [4] _ rfl rfl rfl ?_
   exact ⟨by rw [whereI_at (k := k) (by omega) ht17 hne]; rfl, rfl⟩
  ·refine T.skip ?_
   refine TQ.block_n ?_
   refine TQ.then_n ?_
   refine T.region ?_
   refine TL.move hF rfl rfl ?_
   refine TL.add hF rfl rfl (by omega) (by omega) rfl ?_
   refine TL.assign hF rfl rfl ?_
   refine TL.nil ?_
   refine TQ.round (k + 1) ⟨by omega, fun x hx => ?_⟩ (by omega) ⟨rfl, rfl, rfl, rfl, trivial⟩ rfl
   rw [List.take_succ_eq_append_getElem (by omega)] at hx
   rcases List.mem_append.1 hx with h | h
   ·exact hne x h
   ·rw [List.mem_singleton.1 h]; intro e; exact ht17 e
 ·refine T.exit ?_
  refine TQ.then_x ?_
  refine TQ.then_x ?_
  refine TQ.block_x ?_
  refine TQ.then_n ?_
  refine T.seq ?_
  refine T.region ?_
  refine TL.assign hF rfl rfl ?_
  refine TL.nil ?_
  refine TQ.then_n ?_
  refine T.ret ?_
  refine TQ.rets [4] _ rfl rfl rfl ?_
  exact ⟨by rw [whereI_none (fun x hx2 => hne x (by rw [List.take_of_length_le (by omega)]; exact hx2))]; rfl, rfl⟩
set_option maxHeartbeats 2000000 in
theorem place_fn {a : Option Addr} {xs : List Int} {c : Nat} (n : Int) (hx : Row S w0 η a (ints xs)) (hl : xs.length < 2 ^ 63) :
  Rt Tryd.prog 41 [.slice a xs.length c, .int .i64 n].toArray S w0 η (fun v η' => v = .int .i64 (whereI xs n) ∧ η' = η) := by
 have hF := open_wide
 refine Rt.of (fn := Tryd.f41) Tryd.func41 rfl rfl ?_
 refine T.seq ?_
 refine T.region ?_
 refine TL.assign hF rfl rfl ?_
 refine TL.nil ?_
 refine TQ.then_n ?_
 refine T.seq ?_
 refine T.seq ?_
 refine T.region ?_
 refine TL.assign hF rfl rfl ?_
 refine TL.nil ?_
 refine TQ.then_n ?_
 refine T.block ?_
 refine T.loop (ι := Nat) (fun k => k ≤ xs.length ∧ ∀ x ∈ xs.take k, x ≠ n) (fun k => [(0, .slice a xs.length c), (1, .int .i64 n), (4, .int .i64 0), (5, .int .i64 (k : Int))]) (fun _ => η) (fun k => xs.length - k) 0 ⟨Nat.zero_le _, by simp⟩ ⟨rfl, rfl, rfl, rfl, trivial⟩ rfl ?_
 rintro k ⟨hk, hne⟩
 refine T.seq ?_
 refine T.seq ?_
 refine T.region ?_
 refine TL.move hF rfl rfl ?_
 refine TL.move hF rfl rfl ?_
 refine TL.len hF rfl rfl ?_
 refine TL.bin hF rfl rfl rfl rfl ?_
 refine TL.nil ?_
 refine TQ.then_n ?_
 first | refine T.cond_d rfl (fun ht9 => ?_) (fun ht9 => ?_) | refine T.cond _ rfl (fun ht9 => ?_) (fun ht9 => ?_)
 ·refine T.skip ?_
  refine TQ.then_n ?_
  refine T.seq ?_
  refine T.block ?_
  refine T.seq ?_
  refine T.region ?_
  refine TL.move hF rfl rfl ?_
  refine TL.move hF rfl rfl ?_
  have hkl : k < xs.length := by omega
  refine TL.indexAddr hF rfl rfl (hx.adi (i := k) (by simp; omega)) (by omega) (by omega) rfl ?_
  refine TL.load hF rfl (hx.int (i := k) hkl) rfl ?_
  refine TL.move hF rfl rfl ?_
  refine TL.bin hF rfl rfl rfl rfl ?_
  refine TL.nil ?_
  refine TQ.then_n ?_
  first | refine T.cond_d rfl (fun ht17 => ?_) (fun ht17 => ?_) | refine T.cond _ rfl (fun ht17 => ?_) (fun ht17 => ?_)
  ·refine T.seq ?_
   refine T.region ?_
   refine TL.move hF rfl rfl ?_
   refine TL.assign hF rfl rfl ?_
   refine TL.nil ?_
   refine TQ.then_n ?_
   refine T.ret ?_
   refine TQ.block_r ?_
   refine TQ.then_r ?_
   refine TQ.then_r ?_
   refine TQ.block_r ?_
   refine TQ.then_r ?_
   refine TQ.rets [4] _ rfl rfl rfl ?_
   exact ⟨by rw [whereI_at (k := k) (by omega) ht17 hne]; rfl, rfl⟩
  ·refine T.skip ?_
   refine TQ.block_n ?_
   refine TQ.then_n ?_
   refine T.region ?_
   refine TL.move hF rfl rfl ?_
   refine TL.add hF rfl rfl (by omega) (by omega) rfl ?_
   refine TL.assign hF rfl rfl ?_
   refine TL.nil ?_
   refine TQ.round (k + 1) ⟨by omega, fun x hx => ?_⟩ (by omega) ⟨rfl, rfl, rfl, rfl, trivial⟩ rfl
   rw [List.take_succ_eq_append_getElem (by omega)] at hx
   rcases List.mem_append.1 hx with h | h
   ·exact hne x h
   ·rw [List.mem_singleton.1 h]; intro e; exact ht17 e
 ·refine T.exit ?_
  refine TQ.then_x ?_
  refine TQ.then_x ?_
  refine TQ.block_x ?_
  refine TQ.then_n ?_
  refine T.seq ?_
  refine T.region ?_
  refine TL.assign hF rfl rfl ?_
  refine TL.nil ?_
  refine TQ.then_n ?_
  refine T.ret ?_
  refine TQ.rets [4] _ rfl rfl rfl ?_
  exact ⟨by rw [whereI_none (fun x hx2 => hne x (by rw [List.take_of_length_le (by omega)]; exact hx2))]; rfl, rfl⟩
set_option maxHeartbeats 2000000 in
theorem has_fn {a : Option Addr} {xs : List Int} {c : Nat} (n : Int) (hx : Row S w0 η a (ints xs)) (hl : xs.length < 2 ^ 63) :
  Rt Tryd.prog 40 [.slice a xs.length c, .int .i64 n].toArray S w0 η (fun v η' => v = .bool (decide (n ∈ xs)) ∧ η' = η) := by
 have hF := open_wide
 refine Rt.of (fn := Tryd.f40) Tryd.func40 rfl rfl ?_
 refine T.seq ?_
 refine T.region ?_
 refine TL.assign hF rfl rfl ?_
 refine TL.nil ?_
 refine TQ.then_n ?_
 refine T.seq ?_
 refine T.seq ?_
 refine T.region ?_
 refine TL.assign hF rfl rfl ?_
 refine TL.nil ?_
 refine TQ.then_n ?_
 refine T.block ?_
 refine T.loop (ι := Nat) (fun k => k ≤ xs.length ∧ ∀ x ∈ xs.take k, x ≠ n) (fun k => [(0, .slice a xs.length c), (1, .int .i64 n), (4, .bool false), (5, .int .i64 (k : Int))]) (fun _ => η) (fun k => xs.length - k) 0 ⟨Nat.zero_le _, by simp⟩ ⟨rfl, rfl, rfl, rfl, trivial⟩ rfl ?_
 rintro k ⟨hk, hne⟩
 refine T.seq ?_
 refine T.seq ?_
 refine T.region ?_
 refine TL.move hF rfl rfl ?_
 refine TL.move hF rfl rfl ?_
 refine TL.len hF rfl rfl ?_
 refine TL.bin hF rfl rfl rfl rfl ?_
 refine TL.nil ?_
 refine TQ.then_n ?_
 first | refine T.cond_d rfl (fun ht9 => ?_) (fun ht9 => ?_) | refine T.cond _ rfl (fun ht9 => ?_) (fun ht9 => ?_)
 ·refine T.skip ?_
  refine TQ.then_n ?_
  refine T.seq ?_
  refine T.block ?_
  refine T.seq ?_
  refine T.region ?_
  refine TL.move hF rfl rfl ?_
  refine TL.move hF rfl rfl ?_
  have hkl : k < xs.length := by omega
  refine TL.indexAddr hF rfl rfl (hx.adi (i := k) (by simp; omega)) (by omega) (by omega) rfl ?_
  refine TL.load hF rfl (hx.int (i := k) hkl) rfl ?_
  refine TL.move hF rfl rfl ?_
  refine TL.bin hF rfl rfl rfl rfl ?_
  refine TL.nil ?_
  refine TQ.then_n ?_
  first | refine T.cond_d rfl (fun ht17 => ?_) (fun ht17 => ?_) | refine T.cond _ rfl (fun ht17 => ?_) (fun ht17 => ?_)
  ·refine T.seq ?_
   refine T.region ?_
   refine TL.assign hF rfl rfl ?_
   refine TL.nil ?_
   refine TQ.then_n ?_
   refine T.ret ?_
   refine TQ.block_r ?_
   refine TQ.then_r ?_
   refine TQ.then_r ?_
   refine TQ.block_r ?_
   refine TQ.then_r ?_
   refine TQ.rets [4] _ rfl rfl rfl ?_
   exact ⟨by rw [decide_eq_true (show n ∈ xs from ht17 ▸ List.getElem_mem hkl)]; rfl, rfl⟩
  ·refine T.skip ?_
   refine TQ.block_n ?_
   refine TQ.then_n ?_
   refine T.region ?_
   refine TL.move hF rfl rfl ?_
   refine TL.add hF rfl rfl (by omega) (by omega) rfl ?_
   refine TL.assign hF rfl rfl ?_
   refine TL.nil ?_
   refine TQ.round (k + 1) ⟨by omega, fun x hx => ?_⟩ (by omega) ⟨rfl, rfl, rfl, rfl, trivial⟩ rfl
   rw [List.take_succ_eq_append_getElem (by omega)] at hx
   rcases List.mem_append.1 hx with h | h
   ·exact hne x h
   ·rw [List.mem_singleton.1 h]; intro e; exact ht17 e
 ·refine T.exit ?_
  refine TQ.then_x ?_
  refine TQ.then_x ?_
  refine TQ.block_x ?_
  refine TQ.then_n ?_
  refine T.seq ?_
  refine T.region ?_
  refine TL.assign hF rfl rfl ?_
  refine TL.nil ?_
  refine TQ.then_n ?_
  refine T.ret ?_
  refine TQ.rets [4] _ rfl rfl rfl ?_
  exact ⟨by rw [decide_eq_false (fun h => hne n (by rw [List.take_of_length_le (by omega)]; exact h) rfl)]; rfl, rfl⟩
end Go.Proofs.YtfnalecnnmkgbaaDoor
/- Parts of one another, by the program and by the specification; keys; the table of links. -/
namespace Go.Proofs.YtfnalecnnmkgbaaDoor
open Go.Sl
variable {S : Nat → Prop} {w0 : World} {η : Heap}
theorem under_nat (a b : Nat) : underI (a : Int) (b : Int) = decide (a &&& b = a) := by simp [underI]
theorem under_int (a b : Nat) : underI (a : Int) (b : Int) = decide (((a &&& b : Nat) : Int) = (a : Int)) := by
 rw [under_nat, Bool.eq_iff_iff, decide_eq_true_eq, decide_eq_true_eq]; omega
theorem nat_of {x : Int} (h : 0 ≤ x ∧ x < 1024) : ∃ a : Nat, x = (a : Int) ∧ a < 1024 := ⟨x.toNat, by omega, by omega⟩
def KS (p : Int) : Value := .agg #[.int .i64 p]
theorem eq86 (a b : Int) (w : World) : (Op.equal 86 (KS a) (KS b)).run Tryd.prog w = .ok (decide (a = b)) w := by
 have hf : Tryd.prog.underlying 86 = some (.struct (Tryd.prog.fieldsOf 86)) := by kernel_rfl
 have hs : Tryd.prog.stoodInHeld 86 = false := by kernel_rfl
 obtain ⟨f1, h12, h3, h5, h7⟩ : ∃ f1, (Tryd.prog.fieldsOf 86).toList = [f1] ∧ f1.name ≠ "_" ∧ f1.type = 3 ∧ f1.offset = 0 := by
  unfold Program.fieldsOf; rw [Tryd.underlying86]
  exact ⟨_, rfl, by decide, rfl, rfl⟩
 have hp : ∀ (xs : Array Value) (o : Nat) (v : Value), xs[o]? = some v → (part 3 xs o).run Tryd.prog w = .ok v w := by
  intro xs o v h
  simp [part, Ag.eq (P := Tryd.prog) (t := 3) (b := false), h]
 unfold Op.equal KS
 rw [show Op.maxDepth = 9999 + 1 from rfl, run_equalIn_struct w 9999 86 _ _ hf hs, h12]
 have hall : AllF Tryd.prog w 9999 #[.int .i64 a] #[.int .i64 b] [f1] [(.int .i64 a, .int .i64 b, a == b)] :=
  ⟨⟨h3, by rw [h5, h7]; exact hp _ 0 _ rfl, by rw [h5, h7]; exact hp _ 0 _ rfl, by rw [h5]; exact run_equalIn_int w 9998 3 .i64 .i64 a b Tryd.underlying3⟩, trivial⟩
 rw [run_eqFields_all _ _ hall]
 by_cases h : a = b <;> simp [h]
instance : MKey Tryd.prog 86 KS where
 chk k e w := by kernel_rfl
 find k es l w h := by
  have h1 := find_asking (K := KS) (kt := 86) eq86 k es l 0 w h
  have h2 : (Instr.findKey 86 (KS k) es).run Tryd.prog w = (Instr.findAsking 86 (KS k) es 0).run Tryd.prog w := by
   have hu : ∃ fs, Tryd.prog.underlying 86 = some (.struct fs) := ⟨_, Tryd.underlying86⟩
   obtain ⟨fs, hu⟩ := hu
   have hr : (underlying 86).run Tryd.prog w = .ok (.struct fs) w := by simp [underlying, hu]
   cases es with
   | nil => simp [Instr.findKey, hr, Instr.findNow, Instr.findAsking]
   | cons e es => simp [Instr.findKey, hr, Instr.findNow, Instr.sameNow]
  rw [h2, h1]; simp
 same k := by simp [KS, Instr.sameBits]

set_option maxHeartbeats 2000000 in
theorem Part_fn' (a b : Nat) (ha : a < 1024) (hb : b < 1024) : Rt Tryd.prog 63 [.int .i64 (a : Int), .int .i64 (b : Int)].toArray S w0 η (fun v η' => v = .bool (partI (a : Int) (b : Int)) ∧ η' = η) := by
 have hF := open_wide
 refine Rt.of (fn := Tryd.f63) Tryd.func63 rfl rfl ?_
 refine T.seq ?_
 refine T.region ?_
 refine TL.assign hF rfl rfl ?_
 refine TL.nil ?_
 refine TQ.then_n ?_
 refine T.seq ?_
 refine T.region ?_
 refine TL.move hF rfl rfl ?_
 refine TL.move hF rfl rfl ?_
 refine TL.bin hF rfl rfl rfl rfl ?_
 refine TL.move hF rfl rfl ?_
 refine TL.gb (t := 8) rfl (fun g1_8 => ?_) (fun g1_8 => ?_)
 ·refine TL.on rfl rfl rfl g1_8 ?_
  refine TL.move hF rfl rfl ?_
  refine TL.on rfl rfl rfl g1_8 ?_
  refine TL.move hF rfl rfl ?_
  refine TL.on rfl rfl rfl g1_8 ?_
  refine TL.andS hF rfl rfl (by omega) (by omega) rfl ?_
  refine TL.on rfl rfl rfl g1_8 ?_
  refine TL.move hF rfl rfl ?_
  refine TL.on rfl rfl rfl g1_8 ?_
  refine TL.bin hF rfl rfl rfl rfl ?_
  refine TL.pickT hF rfl g1_8 rfl rfl ?_
  refine TL.assign hF rfl rfl ?_
  refine TL.nil ?_
  refine TQ.then_n ?_
  refine T.ret ?_
  refine TQ.rets [4] _ rfl rfl rfl ?_
  have hne : ((a : Nat) : Int) ≠ b := by simpa using g1_8
  exact ⟨by unfold partI; rw [under_int, decide_eq_true hne, Bool.and_true]; rfl, rfl⟩
 ·refine TL.off hF rfl rfl rfl g1_8 rfl ?_
  refine TL.off hF rfl rfl rfl g1_8 rfl ?_
  refine TL.off hF rfl rfl rfl g1_8 rfl ?_
  refine TL.off hF rfl rfl rfl g1_8 rfl ?_
  refine TL.off hF rfl rfl rfl g1_8 rfl ?_
  refine TL.pickF hF rfl g1_8 rfl rfl ?_
  refine TL.assign hF rfl rfl ?_
  refine TL.nil ?_
  refine TQ.then_n ?_
  refine T.ret ?_
  refine TQ.rets [4] _ rfl rfl rfl ?_
  have hne : ¬ ((a : Nat) : Int) ≠ b := by simpa using g1_8
  exact ⟨by unfold partI; rw [decide_eq_false hne, Bool.and_false]; rfl, rfl⟩
theorem Part_fn {x y : Int} (hx : 0 ≤ x ∧ x < 1024) (hy : 0 ≤ y ∧ y < 1024) : Rt Tryd.prog 63 [.int .i64 x, .int .i64 y].toArray S w0 η (fun v η' => v = .bool (partI x y) ∧ η' = η) := by
 obtain ⟨a, rfl, ha⟩ := nat_of hx
 obtain ⟨b, rfl, hb⟩ := nat_of hy
 exact Part_fn' a b ha hb
set_option maxHeartbeats 2000000 in
theorem lawpart_fn' (a b : Nat) (ha : a < 1024) (hb : b < 1024) : Rt Tryd.prog 28 [.int .i64 (a : Int), .int .i64 (b : Int)].toArray S w0 η (fun v η' => v = .bool (partI (a : Int) (b : Int)) ∧ η' = η) := by
 have hF := open_wide
 refine Rt.of (fn := Tryd.f28) Tryd.func28 rfl rfl ?_
 refine T.seq ?_
 refine T.region ?_
 refine TL.assign hF rfl rfl ?_
 refine TL.nil ?_
 refine TQ.then_n ?_
 refine T.seq ?_
 refine T.region ?_
 refine TL.move hF rfl rfl ?_
 refine TL.move hF rfl rfl ?_
 refine TL.bin hF rfl rfl rfl rfl ?_
 refine TL.move hF rfl rfl ?_
 refine TL.gb (t := 8) rfl (fun g1_8 => ?_) (fun g1_8 => ?_)
 ·refine TL.on rfl rfl rfl g1_8 ?_
  refine TL.move hF rfl rfl ?_
  refine TL.on rfl rfl rfl g1_8 ?_
  refine TL.move hF rfl rfl ?_
  refine TL.on rfl rfl rfl g1_8 ?_
  refine TL.andS hF rfl rfl (by omega) (by omega) rfl ?_
  refine TL.on rfl rfl rfl g1_8 ?_
  refine TL.move hF rfl rfl ?_
  refine TL.on rfl rfl rfl g1_8 ?_
  refine TL.bin hF rfl rfl rfl rfl ?_
  refine TL.pickT hF rfl g1_8 rfl rfl ?_
  refine TL.assign hF rfl rfl ?_
  refine TL.nil ?_
  refine TQ.then_n ?_
  refine T.ret ?_
  refine TQ.rets [4] _ rfl rfl rfl ?_
  have hne : ((a : Nat) : Int) ≠ b := by simpa using g1_8
  exact ⟨by unfold partI; rw [under_int, decide_eq_true hne, Bool.and_true]; rfl, rfl⟩
 ·refine TL.off hF rfl rfl rfl g1_8 rfl ?_
  refine TL.off hF rfl rfl rfl g1_8 rfl ?_
  refine TL.off hF rfl rfl rfl g1_8 rfl ?_
  refine TL.off hF rfl rfl rfl g1_8 rfl ?_
  refine TL.off hF rfl rfl rfl g1_8 rfl ?_
  refine TL.pickF hF rfl g1_8 rfl rfl ?_
  refine TL.assign hF rfl rfl ?_
  refine TL.nil ?_
  refine TQ.then_n ?_
  refine T.ret ?_
  refine TQ.rets [4] _ rfl rfl rfl ?_
  have hne : ¬ ((a : Nat) : Int) ≠ b := by simpa using g1_8
  exact ⟨by unfold partI; rw [decide_eq_false hne, Bool.and_false]; rfl, rfl⟩
theorem lawpart_fn {x y : Int} (hx : 0 ≤ x ∧ x < 1024) (hy : 0 ≤ y ∧ y < 1024) : Rt Tryd.prog 28 [.int .i64 x, .int .i64 y].toArray S w0 η (fun v η' => v = .bool (partI x y) ∧ η' = η) := by
 obtain ⟨a, rfl, ha⟩ := nat_of hx
 obtain ⟨b, rfl, hb⟩ := nat_of hy
 exact lawpart_fn' a b ha hb
set_option maxHeartbeats 2000000 in
theorem under_fn (a b : Nat) (ha : a < 1024) (hb : b < 1024) :
  Rt Tryd.prog 115 [.agg #[.int .i64 (a : Int)], .int .i64 (b : Int)].toArray S w0 η (fun v η' => v = .bool (underI (a : Int) (b : Int)) ∧ ∃ seg, η' = seg :: η) := by
 have hF := open_wide
 refine Rt.of (fn := Tryd.f115) Tryd.func115 rfl rfl ?_
 refine T.seq ?_
 refine T.region ?_
 refine TL.box hF rfl rfl (fun b2 => ?_)
 refine TL.assign hF rfl rfl ?_
 refine TL.nil ?_
 refine TQ.then_n ?_
 refine T.seq ?_
 refine T.region ?_
 refine TL.fieldAddr hF rfl rfl ?_
 refine TL.load hF rfl (own_mem (cs := #[.int .i64 (a : Int)]) (e := 90) (fz := (0, 0)) (by simp [Value.cells]) rfl) rfl ?_
 refine TL.move hF rfl rfl ?_
 refine TL.andS hF rfl rfl (by omega) (by omega) rfl ?_
 refine TL.fieldAddr hF rfl rfl ?_
 refine TL.load hF rfl (own_mem (cs := #[.int .i64 (a : Int)]) (e := 90) (fz := (0, 0)) (by simp [Value.cells]) rfl) rfl ?_
 refine TL.bin hF rfl rfl rfl rfl ?_
 refine TL.assign hF rfl rfl ?_
 refine TL.nil ?_
 refine TQ.then_n ?_
 refine T.ret ?_
 refine TQ.rets [4] _ rfl rfl rfl ?_
 exact ⟨by rw [under_int]; rfl, _, rfl⟩
set_option maxHeartbeats 2000000 in
theorem lessunder_fn (a b : Nat) (ha : a < 1024) (hb : b < 1024) :
  Rt Tryd.prog 118 [.agg #[.int .i64 (a : Int)], .int .i64 (b : Int)].toArray S w0 η (fun v η' => v = .bool (partI (a : Int) (b : Int)) ∧ ∃ seg, η' = seg :: η) := by
 have hF := open_wide
 refine Rt.of (fn := Tryd.f118) Tryd.func118 rfl rfl ?_
 refine T.seq ?_
 refine T.region ?_
 refine TL.box hF rfl rfl (fun b2 => ?_)
 refine TL.assign hF rfl rfl ?_
 refine TL.nil ?_
 refine TQ.then_n ?_
 refine T.seq ?_
 refine T.region ?_
 refine TL.fieldAddr hF rfl rfl ?_
 refine TL.loadA hF [.int .i64 (a : Int)] rfl rfl (own_listM (e := 141) (fz := (0, 0)) (cs := [.int .i64 (a : Int)]) (by simp [Value.cells])) rfl ?_
 refine TL.move hF rfl rfl ?_
 refine TL.call hF (under_fn a b ha hb) rfl rfl ?_
 rintro _ _ ⟨rfl, seg, rfl⟩
 refine TL.hsub _ (List.sublist_cons_self _ _) ?_
 refine TL.move hF rfl rfl ?_
 refine TL.gb (t := 9) rfl (fun g1_9 => ?_) (fun g1_9 => ?_)
 ·refine TL.on rfl rfl rfl g1_9 ?_
  refine TL.fieldAddr hF rfl rfl ?_
  refine TL.on rfl rfl rfl g1_9 ?_
  refine TL.fieldAddr hF rfl rfl ?_
  refine TL.on rfl rfl rfl g1_9 ?_
  refine TL.load hF rfl (own_mem (cs := #[.int .i64 (a : Int)]) (e := 141) (fz := (0, 0)) (by simp [Value.cells]) rfl) rfl ?_
  refine TL.on rfl rfl rfl g1_9 ?_
  refine TL.move hF rfl rfl ?_
  refine TL.on rfl rfl rfl g1_9 ?_
  refine TL.bin hF rfl rfl rfl rfl ?_
  refine TL.pickT hF rfl g1_9 rfl rfl ?_
  refine TL.assign hF rfl rfl ?_
  refine TL.nil ?_
  refine TQ.then_n ?_
  refine T.ret ?_
  refine TQ.rets [4] _ rfl rfl rfl ?_
  exact ⟨by unfold partI; rw [g1_9, Bool.true_and]; rfl, _, rfl⟩
 ·refine TL.off hF rfl rfl rfl g1_9 rfl ?_
  refine TL.off hF rfl rfl rfl g1_9 rfl ?_
  refine TL.off hF rfl rfl rfl g1_9 rfl ?_
  refine TL.off hF rfl rfl rfl g1_9 rfl ?_
  refine TL.off hF rfl rfl rfl g1_9 rfl ?_
  refine TL.pickF hF rfl g1_9 rfl rfl ?_
  refine TL.assign hF rfl rfl ?_
  refine TL.nil ?_
  refine TQ.then_n ?_
  refine T.ret ?_
  refine TQ.rets [4] _ rfl rfl rfl ?_
  exact ⟨by unfold partI; rw [g1_9]; rfl, _, rfl⟩
set_option maxHeartbeats 2000000 in
theorem next_fn (a b : Nat) (ha : a < 1024) (hb : b < 1024) :
  Rt Tryd.prog 117 [.agg #[.int .i64 (a : Int), .int .i64 (b : Int)]].toArray S w0 η (fun v η' => v = .bool (partI (a : Int) (b : Int)) ∧ ∃ segs, η' = segs ++ η) := by
 have hF := open_wide
 refine Rt.of (fn := Tryd.f117) Tryd.func117 rfl rfl ?_
 refine T.seq ?_
 refine T.region ?_
 refine TL.box hF rfl rfl (fun b1 => ?_)
 refine TL.assign hF rfl rfl ?_
 refine TL.nil ?_
 refine TQ.then_n ?_
 refine T.seq ?_
 refine T.region ?_
 refine TL.fieldAddr hF rfl rfl ?_
 refine TL.load hF rfl (own_mem (cs := #[.int .i64 (a : Int), .int .i64 (b : Int)]) (e := 67) (fz := (0, 0)) (by simp [Value.cells]) rfl) rfl ?_
 refine TL.build hF rfl (r := .agg #[.int .i64 (a : Int)]) (fun w => by kernel_rfl) rfl ?_
 refine TL.build hF rfl (r := .agg #[.int .i64 (a : Int)]) (fun w => by kernel_rfl) rfl ?_
 refine TL.makeInterfaceR hF rfl (r := .iface 141 (.agg #[.int .i64 (a : Int)])) (fun w => by kernel_rfl) rfl ?_
 refine TL.assign hF rfl rfl ?_
 refine TL.nil ?_
 refine TQ.then_n ?_
 refine T.seq ?_
 refine T.region ?_
 refine TL.move hF rfl rfl ?_
 refine TL.fieldAddr hF rfl rfl ?_
 refine TL.load hF rfl (own_mem (cs := #[.int .i64 (a : Int), .int .i64 (b : Int)]) (e := 67) (fz := (0, 0)) (by simp [Value.cells]) rfl) rfl ?_
 refine TL.invoke hF rfl rfl (g := 118) (rcv := .agg #[.int .i64 (a : Int)]) (fun w => by kernel_rfl) (lessunder_fn a b ha hb) rfl ?_
 rintro _ _ ⟨rfl, seg, rfl⟩
 refine TL.assign hF rfl rfl ?_
 refine TL.nil ?_
 refine TQ.then_n ?_
 refine T.ret ?_
 refine TQ.rets [2] _ rfl rfl rfl ?_
 exact ⟨rfl, [_, _], rfl⟩
set_option maxHeartbeats 2000000 in
theorem apart_fn (a b : Nat) (ha : a < 1024) (hb : b < 1024) :
  Rt Tryd.prog 114 [.agg #[.int .i64 (a : Int), .int .i64 (b : Int)]].toArray S w0 η (fun v η' => v = .bool (apartI (a : Int) (b : Int)) ∧ ∃ segs, η' = segs ++ η) := by
 have hF := open_wide
 refine Rt.of (fn := Tryd.f114) Tryd.func114 rfl rfl ?_
 refine T.seq ?_
 refine T.region ?_
 refine TL.box hF rfl rfl (fun b1 => ?_)
 refine TL.assign hF rfl rfl ?_
 refine TL.nil ?_
 refine TQ.then_n ?_
 refine T.seq ?_
 refine T.region ?_
 refine TL.fieldAddr hF rfl rfl ?_
 refine TL.load hF rfl (own_mem (cs := #[.int .i64 (a : Int), .int .i64 (b : Int)]) (e := 67) (fz := (0, 0)) (by simp [Value.cells]) rfl) rfl ?_
 refine TL.build hF rfl (r := .agg #[.int .i64 (a : Int)]) (fun w => by kernel_rfl) rfl ?_
 refine TL.makeInterfaceR hF rfl (r := .iface 90 (.agg #[.int .i64 (a : Int)])) (fun w => by kernel_rfl) rfl ?_
 refine TL.assign hF rfl rfl ?_
 refine TL.nil ?_
 refine TQ.then_n ?_
 refine T.seq ?_
 refine T.region ?_
 refine TL.move hF rfl rfl ?_
 refine TL.fieldAddr hF rfl rfl ?_
 refine TL.load hF rfl (own_mem (cs := #[.int .i64 (a : Int), .int .i64 (b : Int)]) (e := 67) (fz := (0, 0)) (by simp [Value.cells]) rfl) rfl ?_
 refine TL.invoke hF rfl rfl (g := 115) (rcv := .agg #[.int .i64 (a : Int)]) (fun w => by kernel_rfl) (under_fn a b ha hb) rfl ?_
 rintro _ _ ⟨rfl, seg, rfl⟩
 refine TL.not hF rfl rfl ?_
 refine TL.move hF rfl rfl ?_
 refine TL.gb (t := 13) rfl (fun g2_13 => ?_) (fun g2_13 => ?_)
 ·refine TL.on rfl rfl rfl g2_13 ?_
  refine TL.fieldAddr hF rfl rfl ?_
  refine TL.on rfl rfl rfl g2_13 ?_
  refine TL.load hF rfl (own_mem (cs := #[.int .i64 (a : Int), .int .i64 (b : Int)]) (e := 67) (fz := (0, 0)) (by simp [Value.cells]) rfl) rfl ?_
  refine TL.on rfl rfl rfl g2_13 ?_
  refine TL.build hF rfl (r := .agg #[.int .i64 (b : Int)]) (fun w => by kernel_rfl) rfl ?_
  refine TL.on rfl rfl rfl g2_13 ?_
  refine TL.fieldAddr hF rfl rfl ?_
  refine TL.on rfl rfl rfl g2_13 ?_
  refine TL.load hF rfl (own_mem (cs := #[.int .i64 (a : Int), .int .i64 (b : Int)]) (e := 67) (fz := (0, 0)) (by simp [Value.cells]) rfl) rfl ?_
  refine TL.on rfl rfl rfl g2_13 ?_
  refine TL.call hF (under_fn b a hb ha) rfl rfl ?_
  rintro _ _ ⟨rfl, seg2, rfl⟩
  refine TL.on rfl rfl rfl g2_13 ?_
  refine TL.not hF rfl rfl ?_
  refine TL.pickT hF rfl g2_13 rfl rfl ?_
  refine TL.assign hF rfl rfl ?_
  refine TL.nil ?_
  refine TQ.then_n ?_
  refine T.ret ?_
  refine TQ.rets [2] _ rfl rfl rfl ?_
  exact ⟨by unfold apartI; rw [g2_13, Bool.true_and]; rfl, [_, _, _], rfl⟩
 ·refine TL.off hF rfl rfl rfl g2_13 rfl ?_
  refine TL.off hF rfl rfl rfl g2_13 rfl ?_
  refine TL.off hF rfl rfl rfl g2_13 rfl ?_
  refine TL.off hF rfl rfl rfl g2_13 rfl ?_
  refine TL.off hF rfl rfl rfl g2_13 rfl ?_
  refine TL.off hF rfl rfl rfl g2_13 rfl ?_
  refine TL.off hF rfl rfl rfl g2_13 rfl ?_
  refine TL.pickF hF rfl g2_13 rfl rfl ?_
  refine TL.assign hF rfl rfl ?_
  refine TL.nil ?_
  refine TQ.then_n ?_
  refine T.ret ?_
  refine TQ.rets [2] _ rfl rfl rfl ?_
  exact ⟨by unfold apartI; rw [g2_13, Bool.false_and]; rfl, [_, _], rfl⟩
/-- The table of links. -/
def kindV (o : Nat) : Value := .func (.func (if o = 0 then 117 else 114)) #[] #[]
def Kinds (S : Nat → Prop) (w0 : World) : Prop := ∀ o, o < 2 → At S w0 [] ⟨0, o, none⟩ (kindV o)
theorem Kinds.at (h : Kinds S w0) {o : Nat} (ho : o < 2) : At S w0 η ⟨0, o, none⟩ (kindV o) := (h o ho).up (by simp)
theorem Kinds.old {S' : Nat → Prop} {w1 : World} {ηr : Heap} (h : Kinds S w0) (hz : Frz S S' w0 w1 ηr) : Kinds S' w1 := fun o ho => hz.old (h o ho)
end Go.Proofs.YtfnalecnnmkgbaaDoor
/- Pairs found by trying, of searches: what stands in memory. -/
namespace Go.Proofs.YtfnalecnnmkgbaaDoor
open Go.Sl
variable {S : Nat → Prop} {w0 : World} {η : Heap}
/-- Mates are places of the ones. -/
def MK (n K : Nat) (s : Mt) : Prop := ∀ j, j < n → -1 ≤ s.mate j ∧ s.mate j < K
def KeepK (n K : Nat) (s s' : Mt) : Prop := MK n K s' ∧ ∀ j, j < n → s.tried j = true → s'.tried j = true
theorem MK.try' {n K j : Nat} {s : Mt} (h : MK n K s) : MK n K (s.try' j) := h
theorem MK.link {n K i j : Nat} {s : Mt} (h : MK n K s) (hi : i < K) : MK n K (s.link i j) := fun k hk => by
  simp only [Mt.link]; unfold upd; split
  · omega
  · exact h k hk
theorem KeepK.try_ {n K j : Nat} {s s1 : Mt} (h : KeepK n K s s1) : KeepK n K s (s1.try' j) := ⟨h.1, fun k hk hs => by
  show upd s1.tried j true k = true
  unfold upd; split
  · rfl
  · exact h.2 k hk hs⟩
theorem KeepK.trans {n K : Nat} {s s1 s2 : Mt} (h : KeepK n K s s1) (h2 : KeepK n K s1 s2) : KeepK n K s s2 := ⟨h2.1, fun k hk hs => h2.2 k hk (h.2 k hk hs)⟩
theorem augL_keepK {rec : Nat → Mt → Mt × Bool} {n K i : Nat} (hi : i < K) (hr : ∀ k s, k < K → MK n K s → KeepK n K s (rec k s).1) : ∀ (l : List Nat) (s : Mt), (∀ j ∈ l, j < n) → MK n K s → KeepK n K s (augL rec i l s).1
  | [], s, _, h => ⟨h, fun _ _ q => q⟩
  | j :: r, s, hl, h => by
    have hj := hl j List.mem_cons_self
    have hl2 : ∀ k ∈ r, k < n := fun k hk => hl k (List.mem_cons_of_mem _ hk)
    have ht : ∀ k, k < n → s.tried k = true → (s.try' j).tried k = true := fun k _ q => by
      show upd s.tried j true k = true; unfold upd; split
      · rfl
      · exact q
    unfold augL
    split
    · exact augL_keepK hi hr r s hl2 h
    · split
      · exact ⟨MK.link (s := s.try' j) h hi, ht⟩
      · rename_i h1 h2
        have h3 := h j hj
        have hk := hr (s.mate j).toNat (s.try' j) (by omega) h
        split
        · exact ⟨hk.1.link hi, fun k a b => hk.2 k a (ht k a b)⟩
        · have h4 := augL_keepK hi hr r _ hl2 hk.1
          exact ⟨h4.1, fun k a b => h4.2 k a (hk.2 k a (ht k a b))⟩
theorem aug_keepK {E : Nat → Nat → Bool} {n K : Nat} : ∀ (f i : Nat) (s : Mt), i < K → MK n K s → KeepK n K s (aug E n f i s).1
  | 0, _, _s, _, h => ⟨h, fun _ _ q => q⟩
  | f + 1, _i, s, hi, h => augL_keepK hi (fun k s hk hs => aug_keepK f k s hk hs) _ s (fun _j hj => (mem_afterL.1 hj).1) h
theorem runM_K {E : Nat → Nat → Bool} {n K : Nat} : ∀ {k : Nat}, k ≤ K → MK n K (runM E n k)
  | 0, _ => fun _ _ => by show (-1 : Int) ≤ -1 ∧ (-1 : Int) < _; omega
  | k + 1, h => (aug_keepK (E := E) (n + 1) k (stM E n k) (by omega) (runM_K (k := k) (by omega))).1
/-- Those behind one from a place on. -/
def aftK (E : Nat → Nat → Bool) (n i j : Nat) : List Nat := (List.range' j (n - j)).filter fun k => E i k
theorem aftK_step {E : Nat → Nat → Bool} {n i j : Nat} (h : j < n) : aftK E n i j = if E i j = true then j :: aftK E n i (j + 1) else aftK E n i (j + 1) := by
  unfold aftK
  rw [show n - j = (n - (j + 1)) + 1 by omega, List.range'_succ, List.filter_cons]
theorem aftK_end {E : Nat → Nat → Bool} {n i j : Nat} (h : n ≤ j) : aftK E n i j = [] := by
  unfold aftK; rw [show n - j = 0 by omega]; rfl
theorem afterL_aftK {E : Nat → Nat → Bool} {n i : Nat} : afterL E n i = aftK E n i 0 := by
  unfold afterL aftK
  rw [List.range_eq_range', Nat.sub_zero]
/-- Who was tried, by the searches themselves. -/
def seenB (m : List Int) (tr : Nat → Bool) (v : Nat) : Bool := (List.range m.length).any fun j => tr j && decide (m.getD j 0 = (v : Int))
theorem seenB_at {m : List Int} (hn : m.Nodup) {tr : Nat → Bool} {j : Nat} (hj : j < m.length) {v : Nat} (hv : m[j] = (v : Int)) : seenB m tr v = tr j := by
  unfold seenB
  rw [Bool.eq_iff_iff, List.any_eq_true]
  constructor
  · rintro ⟨k, hk, h⟩
    have hk := List.mem_range.1 hk
    obtain ⟨a, b⟩ := Bool.and_eq_true_iff.1 h
    have b := of_decide_eq_true b
    rw [List.getD_eq_getElem?_getD, List.getElem?_eq_getElem hk, Option.getD_some, ← hv] at b
    have e := (List.getElem_inj hn).1 b
    subst e; exact a
  · intro h
    refine ⟨j, List.mem_range.2 hj, ?_⟩
    rw [h, List.getD_eq_getElem?_getD, List.getElem?_eq_getElem hj, Option.getD_some, hv]; simp
theorem seenB_upd {m : List Int} (hn : m.Nodup) {tr : Nat → Bool} {j : Nat} (hj : j < m.length) {v : Nat} (hv : m[j] = (v : Int)) (i : Nat) : seenB m (upd tr j true) i = if i = v then true else seenB m tr i := by
  by_cases e : i = v
  · rw [if_pos e, e, seenB_at hn hj hv]; exact upd_same _ _ _
  · rw [if_neg e]
    unfold seenB
    rw [Bool.eq_iff_iff, List.any_eq_true, List.any_eq_true]
    refine exists_congr fun k => and_congr_right fun hk => ?_
    have hk := List.mem_range.1 hk
    by_cases e2 : k = j
    · subst e2
      rw [List.getD_eq_getElem?_getD, List.getElem?_eq_getElem hk, Option.getD_some, hv, decide_eq_false (by omega)]; simp
    · rw [upd_ne _ _ e2]
theorem seenB_none (m : List Int) : seenB m (fun _ => false) = fun _ => false := by
  funext v; unfold seenB; simp
/-- What the map of mates holds. -/
def MapIs (l m : List Int) (s : Mt) (mp : List (Int × Int)) : Prop := ∀ j, (h : j < m.length) → mget m[j] mp = if s.mate j < 0 then none else some (l.getD (s.mate j).toNat 0)
theorem MapIs.put {l m : List Int} {s : Mt} {mp : List (Int × Int)} (h : MapIs l m s mp) (hn : m.Nodup) {i j : Nat} (hj : j < m.length) : MapIs l m (s.link i j) (mput m[j] (l.getD i 0) mp) := fun k hk => by
  rw [mget_mput]
  show _ = if upd s.mate j (i : Int) k < 0 then none else some (l.getD (upd s.mate j (i : Int) k).toNat 0)
  by_cases e : k = j
  · subst e
    rw [if_pos rfl, upd_same, if_neg (by omega), Int.toNat_natCast]
  · rw [if_neg (fun h2 => e ((List.getElem_inj hn).1 h2)), upd_ne _ _ e]
    exact h k hk
/-- The blocks of a search for a next one. -/
structure GB where
  a : Option Addr
  c : Nat
  b3 : Nat
  b8 : Nat
  b5 : Nat
  mb : Nat
  b9 : Nat
theorem cells_repl (N : Nat) (x : Value) : (Value.agg (Array.replicate N x)).cells = (List.replicate N x).toArray := by simp [Value.cells]
end Go.Proofs.YtfnalecnnmkgbaaDoor
/- How many can have a next one, by the program. -/
namespace Go.Proofs.YtfnalecnnmkgbaaDoor
open Go.Sl
variable {S : Nat → Prop} {w0 : World} {η : Heap}
def gcore (q : GB) (m : List Int) (tr : Nat → Bool) (es : Array MapEntry) (clock : Nat) (η : Heap) : Heap :=
 [(q.b3, Obj.cells #[.slice q.a m.length q.c] 22 (0, 0))] :: [(q.b8, Obj.cells (rowC 1024 (seenB m tr)).toArray 96 (0, 0))] :: [(q.b5, Obj.cells #[.map (some q.mb)] 83 (0, 0))] :: [(q.mb, Obj.map es clock)] :: [(q.b9, Obj.cells #[.func (.func 69) #[] #[ptr q.b3, ptr q.b8, ptr q.b5, ptr q.b9]] 68 (0, 0))] :: η
theorem tried_set {b : Nat} {m : List Int} (hn : m.Nodup) {tr : Nat → Bool} {j : Nat} (hj : j < m.length) {v k : Nat} (hv : m[j] = (v : Int)) (hk : k = v) : ([(b, Obj.cells ((rowC 1024 (seenB m tr)).toArray.setIfInBounds k (.bool true)) 96 (0, 0))] : Seg) = [(b, Obj.cells (rowC 1024 (seenB m (upd tr j true))).toArray 96 (0, 0))] := by
 subst hk
 rw [rowC_set (fun i _ => seenB_upd hn hj hv i)]
theorem seen_at {b : Nat} {m : List Int} (hn : m.Nodup) {tr : Nat → Bool} {j : Nat} (hj : j < m.length) {v k : Nat} (hv : m[j] = (v : Int)) (h1 : v < 1024) (hk : k = v) (hm : [(b, Obj.cells (rowC 1024 (seenB m tr)).toArray 96 (0, 0))] ∈ η) : At S w0 η ⟨b, k, none⟩ (.bool (tr j)) := by
 subst hk
 have h := own_mem (S := S) (w0 := w0) (off := k) hm (v := .bool (seenB m tr k)) (by simpa using rowC_get h1)
 rw [seenB_at hn hj hv] at h; exact h
set_option maxHeartbeats 4000000 in
theorem grow_fn {l m : List Int} {q : GB} (hg : Kinds S w0) (hto : Row S w0 [] q.a (ints m)) (hml : m.length < 2 ^ 63) (hnd : m.Nodup) (hsm : Sets m) (hsl : Sets l) : ∀ (fu : Nat) {i : Nat} {s : Mt} {η : Heap} {mp : List (Int × Int)} {es : Array MapEntry} {ck : Nat}, i < l.length → MK m.length l.length s → unt m.length s.tried < fu → MObj KS (Value.int .i64) mp es ck → MapIs l m s mp →
  Rt Tryd.prog 69 [.int .i64 (l.getD i 0), ptr q.b3, ptr q.b8, ptr q.b5, ptr q.b9].toArray S w0 (gcore q m s.tried es ck η) (fun v η' => v = .bool (aug (EPt l m) m.length fu i s).2 ∧ ∃ mp' es' ck', MObj KS (Value.int .i64) mp' es' ck' ∧ MapIs l m (aug (EPt l m) m.length fu i s).1 mp' ∧ η' = gcore q m (aug (EPt l m) m.length fu i s).1.tried es' ck' η) := by
 intro fu
 induction fu with
 | zero => intro i s η mp es ck _ _ h; omega
 | succ fu ih =>
 intro i s η mp es ck hi hok hun0 hmo hmi
 have hF := open_wide
 refine Rt.of (fn := Tryd.f69) Tryd.func69 rfl rfl ?_
 refine T.seq ?_
 refine T.region ?_
 refine TL.assign hF rfl rfl ?_
 refine TL.nil ?_
 refine TQ.then_n ?_
 refine T.seq ?_
 refine T.seq ?_
 refine T.region ?_
 refine TL.load hF rfl (own_mem (cs := #[.slice q.a m.length q.c]) (e := 22) (fz := (0, 0)) (by simp [gcore]) rfl) rfl ?_
 refine TL.len hF rfl rfl ?_
 refine TL.move hF rfl rfl ?_
 refine TL.nil ?_
 refine TQ.then_n ?_
 refine T.block ?_
 have hLL : aug (EPt l m) m.length (fu + 1) i s = augL (aug (EPt l m) m.length fu) i (aftK (EPt l m) m.length i 0) s := by rw [← afterL_aftK]; rfl
 rw [hLL]
 refine T.loop (ι := Nat × Mt × List (Int × Int) × Array MapEntry × Nat) (fun z => match z with | (k, s1, mp, es, ck) => k ≤ m.length ∧ KeepK m.length l.length s s1 ∧ MObj KS (Value.int .i64) mp es ck ∧ MapIs l m s1 mp ∧ augL (aug (EPt l m) m.length fu) i (aftK (EPt l m) m.length i 0) s = augL (aug (EPt l m) m.length fu) i (aftK (EPt l m) m.length i k) s1) (fun z => match z with | (k, s1, mp, es, ck) => [(0, .int .i64 (l.getD i 0)), (2, ptr q.b8), (3, ptr q.b5), (4, ptr q.b9), (6, .bool false), (11, .slice q.a m.length q.c), (12, .int .i64 (m.length : Int)), (13, .int .i64 (k : Int))]) (fun z => match z with | (k, s1, mp, es, ck) => gcore q m s1.tried es ck η) (fun z => m.length - z.1) (0, s, mp, es, ck) ⟨Nat.zero_le _, ⟨hok, fun _ _ h => h⟩, hmo, hmi, rfl⟩ ⟨rfl, rfl, rfl, rfl, rfl, rfl, rfl, rfl, trivial⟩ rfl ?_
 clear hmo hmi mp es ck
 rintro ⟨k, s1, mp, es, ck⟩ ⟨hk, hkp, hmo, hmi, hag⟩
 refine T.seq ?_
 refine T.region ?_
 refine TL.bin hF rfl rfl rfl rfl ?_
 refine TL.nil ?_
 refine TQ.then_n ?_
 refine T.seq ?_
 first | refine T.cond_d rfl (fun ht14 => ?_) (fun ht14 => ?_) | refine T.cond _ rfl (fun ht14 => ?_) (fun ht14 => ?_)
 ·refine T.skip ?_
  refine TQ.then_n ?_
  refine T.seq ?_
  refine T.block ?_
  refine T.seq ?_
  refine T.region ?_
  have hkm : k < m.length := by have h : (k : Int) < (m.length : Int) := ht14; omega
  obtain ⟨v, hv, hv4⟩ := hsm.get hkm
  refine TL.indexAddr hF rfl rfl (hto.adi (i := k) (by simp; omega)) (by omega) (by omega) rfl ?_
  refine TL.load hF rfl (v := .int .i64 (v : Int)) (by rw [← hv]; exact (hto.ro.int (i := k) hkm)) rfl ?_
  refine TL.assign hF rfl rfl ?_
  refine TL.nil ?_
  refine TQ.then_n ?_
  refine T.seq ?_
  refine T.seq ?_
  refine T.region ?_
  refine TL.move hF rfl rfl ?_
  rw [aftK_step hkm] at hag
  refine TL.indexAddrA hF rfl rfl (by omega) (by omega) rfl ?_
  refine TL.load hF rfl (seen_at (tr := s1.tried) hnd (j := k) hkm hv hv4 (by simp) (by simp [gcore])) rfl ?_
  refine TL.move hF rfl rfl ?_
  refine TL.gb (t := 20) rfl (fun g4_20 => ?_) (fun g4_20 => ?_)
  ·refine TL.off hF rfl rfl rfl g4_20 rfl ?_
   refine TL.off hF rfl rfl rfl g4_20 rfl ?_
   refine TL.off hF rfl rfl rfl g4_20 rfl ?_
   refine TL.off hF rfl rfl rfl g4_20 rfl ?_
   refine TL.off hF rfl rfl rfl g4_20 rfl ?_
   refine TL.off hF rfl rfl rfl g4_20 rfl ?_
   refine TL.off hF rfl rfl rfl g4_20 rfl ?_
   refine TL.off hF rfl rfl rfl g4_20 rfl ?_
   refine TL.pickT hF rfl g4_20 rfl rfl ?_
   refine TL.nil ?_
   refine TQ.then_n ?_
   refine T.cond_t rfl rfl ?_
   refine T.exit ?_
   refine TQ.then_x ?_
   refine TQ.block_x ?_
   refine TQ.then_n ?_
   refine T.region ?_
   refine TL.add hF rfl rfl (by omega) (by omega) rfl ?_
   refine TL.move hF rfl rfl ?_
   refine TL.nil ?_
   have htt : s1.tried k = true := g4_20
   have hag2 : augL (aug (EPt l m) m.length fu) i (aftK (EPt l m) m.length i 0) s = augL (aug (EPt l m) m.length fu) i (aftK (EPt l m) m.length i (k + 1)) s1 := by
    rw [hag]
    split
    ·simp only [augL]; rw [if_pos htt]
    ·rfl
   exact TQ.round (k + 1, s1, mp, es, ck) ⟨by omega, hkp, hmo, hmi, hag2⟩ (by dsimp only; omega) ⟨rfl, rfl, rfl, rfl, rfl, rfl, rfl, rfl, trivial⟩ rfl
  ·refine TL.on rfl rfl rfl g4_20 ?_
   refine TL.indexAddrA hF rfl rfl (by decide) (by decide) rfl ?_
   refine TL.on rfl rfl rfl g4_20 ?_
   refine TL.fieldAddr hF rfl rfl ?_
   refine TL.on rfl rfl rfl g4_20 ?_
   refine TL.load hF rfl (hg.at (o := 0) (by omega)) rfl ?_
   refine TL.on rfl rfl rfl g4_20 ?_
   refine TL.move hF rfl rfl ?_
   refine TL.on rfl rfl rfl g4_20 ?_
   refine TL.move hF rfl rfl ?_
   refine TL.on rfl rfl rfl g4_20 ?_
   obtain ⟨u, hu, hu4⟩ : ∃ u : Nat, l.getD i 0 = (u : Int) ∧ u < 1024 := by
    obtain ⟨u, h1, h2⟩ := hsl.get hi
    exact ⟨u, by rw [List.getD_eq_getElem?_getD, List.getElem?_eq_getElem hi]; exact h1, h2⟩
   have hE : EPt l m i k = partI (u : Int) (v : Int) := by unfold EPt; rw [hu, List.getD_eq_getElem?_getD, List.getElem?_eq_getElem hkm, Option.getD_some, hv]
   rw [hu]
   refine TL.build hF rfl (r := .agg #[.int .i64 (u : Int), .int .i64 (v : Int)]) (fun w => by kernel_rfl) rfl ?_
   refine TL.on rfl rfl rfl g4_20 ?_
   refine TL.call hF (next_fn u v hu4 hv4) rfl rfl ?_
   rintro _ _ ⟨rfl, segs, rfl⟩
   refine TL.hsub _ (List.sublist_append_right _ _) ?_
   rw [← hE, ← hu]
   refine TL.on rfl rfl rfl g4_20 ?_
   refine TL.not hF rfl rfl ?_
   refine TL.pickF hF rfl g4_20 rfl rfl ?_
   refine TL.nil ?_
   refine TQ.then_n ?_
   refine T.cond _ rfl (fun ht29 => ?_) (fun ht29 => ?_)
   ·refine T.exit ?_
    refine TQ.then_x ?_
    refine TQ.block_x ?_
    refine TQ.then_n ?_
    refine T.region ?_
    refine TL.add hF rfl rfl (by omega) (by omega) rfl ?_
    refine TL.move hF rfl rfl ?_
    refine TL.nil ?_
    rw [if_neg (show ¬ EPt l m i k = true by simpa using ht29)] at hag
    exact TQ.round (k + 1, s1, mp, es, ck) ⟨by omega, hkp, hmo, hmi, hag⟩ (by dsimp only; omega) ⟨rfl, rfl, rfl, rfl, rfl, rfl, rfl, rfl, trivial⟩ rfl
   ·refine T.skip ?_
    refine TQ.then_n ?_
    refine T.seq ?_
    refine T.region ?_
    refine TL.move hF rfl rfl ?_
    refine TL.indexAddrA hF rfl rfl (by omega) (by omega) rfl ?_
    refine TL.storeI hF 1 rfl rfl rfl rfl (by simp [rowC_len]; omega) ?_
    refine TL.nil ?_
    refine TQ.then_n ?_
    refine T.seq ?_
    refine T.region ?_
    refine TL.heap (η' := gcore q m (s1.try' k).tried es ck η) (congrArg (fun z : Seg => [(q.b3, Obj.cells #[.slice q.a m.length q.c] 22 (0, 0))] :: z :: [(q.b5, Obj.cells #[.map (some q.mb)] 83 (0, 0))] :: [(q.mb, Obj.map es ck)] :: [(q.b9, Obj.cells #[.func (.func 69) #[] #[ptr q.b3, ptr q.b8, ptr q.b5, ptr q.b9]] 68 (0, 0))] :: η) (tried_set hnd hkm hv (by simp))) ?_
    have htf : s1.tried k = false := g4_20
    rw [if_pos (show EPt l m i k = true by simpa using ht29)] at hag
    have hun : unt m.length (s1.try' k).tried < unt m.length s1.tried := unt_upd hkm htf
    have hun2 : unt m.length s1.tried ≤ unt m.length s.tried := unt_mono hkp.2
    have hmj := hkp.1 k hkm
    have hmk := hmi k hkm
    rw [hv] at hmk
    simp only [augL] at hag
    rw [if_neg (by rw [htf]; decide)] at hag
    refine TL.load hF rfl (own_mem (cs := #[.map (some q.mb)]) (e := 83) (fz := (0, 0)) (by simp [gcore]) rfl) rfl ?_
    refine TL.move hF rfl rfl ?_
    refine TL.build hF rfl (r := KS (v : Int)) (fun w => by kernel_rfl) rfl ?_
    refine TL.lookupOk hF (Value.int .i64) (v : Int) rfl rfl (by simp [gcore]) hmo rfl ?_
    refine TL.move hF rfl rfl ?_
    refine TL.extract hF rfl rfl rfl ?_
    refine TL.extract hF rfl rfl rfl ?_
    refine TL.assign hF rfl rfl ?_
    refine TL.assign hF rfl rfl ?_
    refine TL.nil ?_
    refine TQ.then_n ?_
    refine T.seq ?_
    refine T.region ?_
    refine TL.move hF rfl rfl ?_
    refine TL.not hF rfl rfl ?_
    refine TL.move hF rfl rfl ?_
    refine TL.gb (t := 41) rfl (fun g7_41 => ?_) (fun g7_41 => ?_)
    ·refine TL.off hF rfl rfl rfl g7_41 rfl ?_
     refine TL.off hF rfl rfl rfl g7_41 rfl ?_
     refine TL.off hF rfl rfl rfl g7_41 rfl ?_
     refine TL.pickT hF rfl g7_41 rfl rfl ?_
     refine TL.nil ?_
     refine TQ.then_n ?_
     refine T.cond_t rfl rfl ?_
     refine T.seq ?_
     refine T.region ?_
     refine TL.load hF rfl (own_mem (cs := #[.map (some q.mb)]) (e := 83) (fz := (0, 0)) (by simp [gcore]) rfl) rfl ?_
     refine TL.move hF rfl rfl ?_
     refine TL.build hF rfl (r := KS (v : Int)) (fun w => by kernel_rfl) rfl ?_
     refine TL.move hF rfl rfl ?_
     refine TL.mapUpdate hF 3 (Value.int .i64) (v : Int) (l.getD i 0) rfl rfl rfl rfl hmo (fun es8 clock8 hm8 => ?_)
     refine TL.nil ?_
     refine TQ.then_n ?_
     refine T.seq ?_
     refine T.region ?_
     refine TL.assign hF rfl rfl ?_
     refine TL.nil ?_
     refine TQ.then_n ?_
     refine T.ret ?_
     refine TQ.block_r ?_
     refine TQ.then_r ?_
     refine TQ.then_r ?_
     refine TQ.block_r ?_
     refine TQ.then_r ?_
     have hneg : s1.mate k < 0 := by
      by_cases h : s1.mate k < 0
      ·exact h
      ·rw [hmk, if_neg h] at g7_41; cases g7_41
     rw [if_pos hneg] at hag
     refine TQ.rets [6] _ rfl rfl rfl ?_
     rw [hag]
     have hmi3 := hmi.put hnd (i := i) hkm
     rw [hv] at hmi3
     exact ⟨rfl, _, _, _, hm8, hmi3, rfl⟩
    ·refine TL.on rfl rfl rfl g7_41 ?_
     refine TL.load hF rfl (own_mem (cs := #[.func (.func 69) #[] #[ptr q.b3, ptr q.b8, ptr q.b5, ptr q.b9]]) (e := 68) (fz := (0, 0)) (by simp [gcore]) rfl) rfl ?_
     refine TL.on rfl rfl rfl g7_41 ?_
     refine TL.move hF rfl rfl ?_
     refine TL.on rfl rfl rfl g7_41 ?_
     have hnn : ¬ s1.mate k < 0 := fun h => by rw [hmk, if_pos h] at g7_41; cases g7_41
     rw [hmk, if_neg hnn] at g7_41 ⊢
     refine TL.call hF (ih (i := (s1.mate k).toNat) (s := s1.try' k) (η := η) (by omega) hkp.1 (by omega) hmo hmi) rfl rfl ?_
     rw [if_neg hnn] at hag
     clear hmo hmi hmk
     rintro _ _ ⟨rfl, mp, es, ck, hmo, hmi, rfl⟩
     refine TL.pickF hF rfl g7_41 rfl rfl ?_
     refine TL.nil ?_
     refine TQ.then_n ?_
     refine T.cond _ rfl (fun ht45 => ?_) (fun ht45 => ?_)
     ·refine T.seq ?_
      refine T.region ?_
      refine TL.load hF rfl (own_mem (cs := #[.map (some q.mb)]) (e := 83) (fz := (0, 0)) (by simp [gcore]) rfl) rfl ?_
      refine TL.move hF rfl rfl ?_
      refine TL.build hF rfl (r := KS (v : Int)) (fun w => by kernel_rfl) rfl ?_
      refine TL.move hF rfl rfl ?_
      refine TL.mapUpdate hF 3 (Value.int .i64) (v : Int) (l.getD i 0) rfl rfl rfl rfl hmo (fun es8 clock8 hm8 => ?_)
      refine TL.nil ?_
      refine TQ.then_n ?_
      refine T.seq ?_
      refine T.region ?_
      refine TL.assign hF rfl rfl ?_
      refine TL.nil ?_
      refine TQ.then_n ?_
      refine T.ret ?_
      refine TQ.block_r ?_
      refine TQ.then_r ?_
      refine TQ.then_r ?_
      refine TQ.block_r ?_
      refine TQ.then_r ?_
      rw [if_pos ht45] at hag
      refine TQ.rets [6] _ rfl rfl rfl ?_
      rw [hag]
      have hmi3 := hmi.put hnd (i := i) hkm
      rw [hv] at hmi3
      exact ⟨rfl, _, _, _, hm8, hmi3, rfl⟩
     ·refine T.skip ?_
      refine TQ.block_n ?_
      refine TQ.then_n ?_
      refine T.region ?_
      refine TL.add hF rfl rfl (by omega) (by omega) rfl ?_
      refine TL.move hF rfl rfl ?_
      refine TL.nil ?_
      rw [if_neg (show ¬ ((aug (EPt l m) m.length fu) (s1.mate k).toNat (s1.try' k)).2 = true by rw [ht45]; decide)] at hag
      exact TQ.round (k + 1, ((aug (EPt l m) m.length fu) (s1.mate k).toNat (s1.try' k)).1, mp, es, ck) ⟨by omega, hkp.try_.trans (aug_keepK fu _ _ (by omega) hkp.1), hmo, hmi, hag⟩ (by dsimp only; omega) ⟨rfl, rfl, rfl, rfl, rfl, rfl, rfl, rfl, trivial⟩ rfl
 ·refine T.exit ?_
  refine TQ.then_x ?_
  refine TQ.then_x ?_
  refine TQ.block_x ?_
  refine TQ.then_n ?_
  refine T.seq ?_
  refine T.region ?_
  refine TL.assign hF rfl rfl ?_
  refine TL.nil ?_
  refine TQ.then_n ?_
  refine T.ret ?_
  have hjj : ¬ (k : Int) < (m.length : Int) := ht14
  rw [aftK_end (show m.length ≤ k by omega)] at hag
  refine TQ.rets [6] _ rfl rfl rfl ?_
  rw [hag]
  exact ⟨rfl, mp, es, ck, hmo, hmi, rfl⟩
end Go.Proofs.YtfnalecnnmkgbaaDoor
/- How many can have a next one, and how many chains are the fewest, by the program. -/
namespace Go.Proofs.YtfnalecnnmkgbaaDoor
open Go.Sl
variable {S : Nat → Prop} {w0 : World} {η : Heap}
set_option maxHeartbeats 2000000 in
theorem matched_fn {a b : Option Addr} {l m : List Int} {c d : Nat} (hg : Kinds S w0) (hx : Row S w0 [] a (ints l)) (hy : Row S w0 [] b (ints m)) (hl : l.length < 2 ^ 62) (hml : m.length < 2 ^ 63) (hnd : m.Nodup) (hsl : Sets l) (hsm : Sets m) :
  Rt Tryd.prog 57 [.slice a l.length c, .slice b m.length d].toArray S w0 η (fun v η' => v = .int .i64 (matchN l m : Nat) ∧ η' = η) := by
 have hF := open_wide
 refine Rt.of (fn := Tryd.f57) Tryd.func57 rfl rfl ?_
 refine T.seq ?_
 refine T.region ?_
 refine TL.box hF rfl rfl (fun b3 => ?_)
 refine TL.assign hF rfl rfl ?_
 refine TL.nil ?_
 refine TQ.then_n ?_
 refine T.seq ?_
 refine T.region ?_
 refine TL.makeMap hF rfl (fun mb => ?_)
 refine TL.alloc hF rfl (fun b5 => ?_)
 first | refine TL.storeI hF 0 rfl rfl rfl rfl (by first | decide | simp) ?_ | refine TL.storeI hF 1 rfl rfl rfl rfl (by first | decide | simp) ?_ | refine TL.storeI hF 2 rfl rfl rfl rfl (by first | decide | simp) ?_ | refine TL.storeI hF 3 rfl rfl rfl rfl (by first | decide | simp) ?_ | refine TL.storeI hF 4 rfl rfl rfl rfl (by first | decide | simp) ?_ | refine TL.storeI hF 5 rfl rfl rfl rfl (by first | decide | simp) ?_
 refine TL.nil ?_
 refine TQ.then_n ?_
 refine T.seq ?_
 refine T.seq ?_
 refine T.region ?_
 refine TL.move hF rfl rfl ?_
 refine TL.len hF rfl rfl ?_
 refine TL.move hF rfl rfl ?_
 refine TL.nil ?_
 refine TQ.then_n ?_
 refine T.block ?_
 refine T.heap (η' := [(b5, Obj.cells #[.map (some mb)] 83 (0, 0))] :: [(mb, Obj.map #[] 0)] :: [(b3, Obj.cells #[.slice b m.length d] 22 (0, 0))] :: η) (by simp [Value.cells]) ?_
 refine T.loop (ι := Nat × List (Int × Int) × Array MapEntry × Nat) (fun z => match z with | (k, mp, es, ck) => k ≤ l.length ∧ MObj KS (Value.int .i64) mp es ck ∧ MapIs l m (runM (EPt l m) m.length k) mp) (fun z => match z with | (k, mp, es, ck) => [(3, ptr b3), (5, ptr b5), (11, .slice a l.length c), (12, .int .i64 (l.length : Int)), (4, .int .i64 ((numM (EPt l m) m.length k : Nat) : Int)), (13, .int .i64 (k : Int))]) (fun z => match z with | (k, mp, es, ck) => [(b5, Obj.cells #[.map (some mb)] 83 (0, 0))] :: [(mb, Obj.map es ck)] :: [(b3, Obj.cells #[.slice b m.length d] 22 (0, 0))] :: η) (fun z => l.length - z.1) (0, [], #[], 0) ⟨Nat.zero_le _, MObj.nil _ _, fun j hj => by rfl⟩ ⟨rfl, rfl, rfl, rfl, rfl, rfl, trivial⟩ rfl ?_
 rintro ⟨k, mp, es, ck⟩ ⟨hk, hmo, hmi⟩
 refine T.seq ?_
 refine T.region ?_
 refine TL.bin hF rfl rfl rfl rfl ?_
 refine TL.nil ?_
 refine TQ.then_n ?_
 refine T.seq ?_
 first | refine T.cond_d rfl (fun ht14 => ?_) (fun ht14 => ?_) | refine T.cond _ rfl (fun ht14 => ?_) (fun ht14 => ?_)
 ·refine T.skip ?_
  refine TQ.then_n ?_
  refine T.seq ?_
  refine T.block ?_
  refine T.seq ?_
  refine T.region ?_
  have hkl : k < l.length := by have h : (k : Int) < (l.length : Int) := ht14; omega
  refine TL.indexAddr hF rfl rfl (hx.adi (i := k) (by simp; omega)) (by omega) (by omega) rfl ?_
  refine TL.load hF rfl (v := .int .i64 (l.getD k 0)) (by rw [List.getD_eq_getElem?_getD, List.getElem?_eq_getElem hkl]; exact (hx.ro.int (i := k) hkl)) rfl ?_
  refine TL.assign hF rfl rfl ?_
  refine TL.nil ?_
  refine TQ.then_n ?_
  refine T.seq ?_
  refine T.region ?_
  refine TL.alloc hF rfl (fun b8 => ?_)
  refine TL.nil ?_
  refine TQ.then_n ?_
  refine T.seq ?_
  refine T.region ?_
  refine TL.alloc hF rfl (fun b9 => ?_)
  refine TL.nil ?_
  refine TQ.then_n ?_
  refine T.seq ?_
  refine T.region ?_
  refine TL.makeFunc hF rfl rfl rfl ?_
  refine TL.storeI hF 0 rfl rfl rfl rfl (by simp [Value.cells]) ?_
  refine TL.nil ?_
  refine TQ.then_n ?_
  refine T.seq ?_
  refine T.region ?_
  refine TL.heap (η' := [(b9, Obj.cells #[.func (.func 69) #[] #[ptr b3, ptr b8, ptr b5, ptr b9]] 68 (0, 0))] :: [(b8, Obj.cells (rowC 1024 (seenB m fun _ => false)).toArray 96 (0, 0))] :: [(b5, Obj.cells #[.map (some mb)] 83 (0, 0))] :: [(mb, Obj.map es ck)] :: [(b3, Obj.cells #[.slice b m.length d] 22 (0, 0))] :: η) (by rw [cells_repl, rowC_false, seenB_none]; rfl) ?_
  refine TL.pick' [4, 1, 2, 3, 0] [_, _, _, _, _] rfl rfl rfl ?_
  refine TL.load hF rfl (own_mem (cs := #[.func (.func 69) #[] #[ptr b3, ptr b8, ptr b5, ptr b9]]) (e := 68) (fz := (0, 0)) (by simp [pickL]) rfl) rfl ?_
  refine TL.move hF rfl rfl ?_
  refine TL.call hF (grow_fn (q := ⟨b, d, b3, b8, b5, mb, b9⟩) hg hy hml hnd hsm hsl (m.length + 1) (i := k) (s := stM (EPt l m) m.length k) (η := η) hkl (runM_K (by omega)) (Nat.lt_succ_of_le (unt_le _ _)) hmo hmi) rfl rfl ?_
  clear hmo hmi
  rintro _ _ ⟨rfl, mp, es, ck, hmo, hmi, rfl⟩
  have hns : numM (EPt l m) m.length (k + 1) = numM (EPt l m) m.length k + if okM (EPt l m) m.length k = true then 1 else 0 := cnt_succ
  have hnl : numM (EPt l m) m.length k ≤ k := cnt_le
  refine TL.nil ?_
  refine TQ.then_n ?_
  refine T.cond _ rfl (fun ht20 => ?_) (fun ht20 => ?_)
  ·refine T.region ?_
   refine TL.move hF rfl rfl ?_
   refine TL.add hF rfl rfl (by omega) (by omega) rfl ?_
   refine TL.assign hF rfl rfl ?_
   refine TL.nil ?_
   refine TQ.block_n ?_
   refine TQ.then_n ?_
   refine T.region ?_
   refine TL.add hF rfl rfl (by omega) (by omega) rfl ?_
   refine TL.move hF rfl rfl ?_
   refine TL.nil ?_
   refine TQ.pick [2, 3, 0] [_, _, _, _, _] rfl rfl rfl ?_
   refine TQ.round (k + 1, mp, es, ck) ⟨by omega, hmo, hmi⟩ (by dsimp only; omega) ⟨rfl, rfl, rfl, rfl, congrArg (fun z => some (Value.int .i64 z)) ?_, rfl, trivial⟩ rfl
   rw [if_pos (show okM (EPt l m) m.length k = true from ht20)] at hns
   rw [hns]; omega
  ·refine T.skip ?_
   refine TQ.block_n ?_
   refine TQ.then_n ?_
   refine T.region ?_
   refine TL.add hF rfl rfl (by omega) (by omega) rfl ?_
   refine TL.move hF rfl rfl ?_
   refine TL.nil ?_
   refine TQ.pick [2, 3, 0] [_, _, _, _, _] rfl rfl rfl ?_
   refine TQ.round (k + 1, mp, es, ck) ⟨by omega, hmo, hmi⟩ (by dsimp only; omega) ⟨rfl, rfl, rfl, rfl, congrArg (fun z => some (Value.int .i64 z)) ?_, rfl, trivial⟩ rfl
   rw [if_neg (show ¬ okM (EPt l m) m.length k = true by rw [show okM (EPt l m) m.length k = false from ht20]; decide)] at hns
   rw [hns]; omega
 ·refine T.exit ?_
  refine TQ.then_x ?_
  refine TQ.then_x ?_
  refine TQ.block_x ?_
  refine TQ.then_n ?_
  refine T.seq ?_
  refine T.region ?_
  refine TL.move hF rfl rfl ?_
  refine TL.assign hF rfl rfl ?_
  refine TL.nil ?_
  refine TQ.then_n ?_
  refine T.ret ?_
  refine TQ.pop ?_
  refine TQ.pop ?_
  refine TQ.pop ?_
  refine TQ.rets [4] _ rfl rfl rfl ?_
  have hkn : k = l.length := by have h : ¬ (k : Int) < (l.length : Int) := ht14; omega
  rw [hkn]; exact ⟨rfl, rfl⟩
theorem matchN_le (l m : List Int) : matchN l m ≤ l.length := cnt_le
set_option maxHeartbeats 2000000 in
theorem fewest_fn {a : Option Addr} {l : List Int} {c : Nat} (hg : Kinds S w0) (hx : Row S w0 [] a (ints l)) (hl : l.length < 2 ^ 62) (hnd : l.Nodup) (hsl : Sets l) :
  Rt Tryd.prog 33 [.slice a l.length c].toArray S w0 η (fun v η' => v = .int .i64 (fewN l) ∧ η' = η) := by
 have hF := open_wide
 refine Rt.of (fn := Tryd.f33) Tryd.func33 rfl rfl ?_
 refine T.seq ?_
 refine T.region ?_
 refine TL.assign hF rfl rfl ?_
 refine TL.nil ?_
 refine TQ.then_n ?_
 refine T.seq ?_
 refine T.region ?_
 refine TL.move hF rfl rfl ?_
 refine TL.len hF rfl rfl ?_
 refine TL.move hF rfl rfl ?_
 refine TL.move hF rfl rfl ?_
 refine TL.callV hF (matched_fn hg hx hx hl (by omega) hnd hsl hsl) rfl rfl ?_
 have hle := matchN_le l l
 refine TL.sub hF rfl rfl (by omega) (by omega) rfl ?_
 refine TL.assign hF rfl rfl ?_
 refine TL.nil ?_
 refine TQ.then_n ?_
 refine T.ret ?_
 refine TQ.rets [2] _ rfl rfl rfl ?_
 exact ⟨rfl, rfl⟩
end Go.Proofs.YtfnalecnnmkgbaaDoor
/- How many can have a next one, by the specification. -/
namespace Go.Proofs.YtfnalecnnmkgbaaDoor
open Go.Sl
variable {S : Nat → Prop} {w0 : World} {η : Heap}
theorem intC_setU {n k j : Nat} {f : Nat → Int} {v : Int} (hk : k = j) : (intC n f).toArray.setIfInBounds k (.int .i64 v) = (intC n (upd f j v)).toArray := by subst hk; exact intC_set (fun _ _ => rfl)
theorem rowC_setU {n k j : Nat} {f : Nat → Bool} {v : Bool} (hk : k = j) : (rowC n f).toArray.setIfInBounds k (.bool v) = (rowC n (upd f j v)).toArray := by subst hk; exact rowC_set (fun _ _ => rfl)
theorem iseg_updU {b n k j : Nat} {f : Nat → Int} {v : Int} (hk : k = j) : ([(b, Obj.cells ((intC n f).toArray.setIfInBounds k (.int .i64 v)) 3 (0, 0))] : Seg) = iseg b n (upd f j v) := by rw [intC_setU hk]
theorem bseg_updU {b n k j : Nat} {f : Nat → Bool} {v : Bool} (hk : k = j) : ([(b, Obj.cells ((rowC n f).toArray.setIfInBounds k (.bool v)) 4 (0, 0))] : Seg) = bseg b n (upd f j v) := by rw [rowC_setU hk]
set_option maxHeartbeats 4000000 in
theorem grown_ref {a b : Option Addr} {l m : List Int} {c d ob tr : Nat} (hx : Row S w0 [] a (ints l)) (hy : Row S w0 [] b (ints m)) (_hl : l.length < 2 ^ 62) (hml : m.length < 2 ^ 62) (hsl : Sets l) (hsm : Sets m) : ∀ (fu : Nat) {i : Nat} {s : Mt} {η : Heap}, i < l.length → MK m.length l.length s → unt m.length s.tried < fu →
  Rt Tryd.prog 74 [.slice a l.length c, .slice b m.length d, .int .i64 (i : Int), .agg #[.slice (some ⟨ob, 0, none⟩) m.length m.length, .slice (some ⟨tr, 0, none⟩) m.length m.length]].toArray S w0 (iseg ob m.length s.mate :: bseg tr m.length s.tried :: η) (fun v η' => v = .tuple #[.agg #[.slice (some ⟨ob, 0, none⟩) m.length m.length, .slice (some ⟨tr, 0, none⟩) m.length m.length], .bool (aug (EPt l m) m.length fu i s).2] ∧ η' = iseg ob m.length (aug (EPt l m) m.length fu i s).1.mate :: bseg tr m.length (aug (EPt l m) m.length fu i s).1.tried :: η) := by
 intro fu
 induction fu with
 | zero => intro i s η _ _ h; omega
 | succ fu ih =>
 intro i s η hi hok hun0
 have hF := open_wide
 refine Rt.of (fn := Tryd.f74) Tryd.func74 rfl rfl ?_
 refine T.seq ?_
 refine T.region ?_
 refine TL.box hF rfl rfl (fun b7 => ?_)
 refine TL.alloc hF rfl (fun b8 => ?_)
 refine TL.assign hF rfl rfl ?_
 refine TL.nil ?_
 refine TQ.then_n ?_
 refine T.seq ?_
 refine T.seq ?_
 refine T.region ?_
 refine TL.assign hF rfl rfl ?_
 refine TL.nil ?_
 refine TQ.then_n ?_
 refine T.block ?_
 refine T.heap (η' := [(b8, Obj.cells #[.slice none 0 0, .slice none 0 0] 100 (0, 0))] :: [(b7, Obj.cells #[.slice (some ⟨ob, 0, none⟩) m.length m.length, .slice (some ⟨tr, 0, none⟩) m.length m.length] 100 (0, 0))] :: iseg ob m.length s.mate :: bseg tr m.length s.tried :: η) (by simp [Value.cells]) ?_
 refine T.pick [2, 3, 1, 0] [_, _, _, _] rfl rfl rfl ?_
 have hLL : aug (EPt l m) m.length (fu + 1) i s = augL (aug (EPt l m) m.length fu) i (aftK (EPt l m) m.length i 0) s := by rw [← afterL_aftK]; rfl
 rw [hLL]
 refine T.loop (ι := Nat × Mt) (fun z => match z with | (k, s1) => k ≤ m.length ∧ KeepK m.length l.length s s1 ∧ augL (aug (EPt l m) m.length fu) i (aftK (EPt l m) m.length i 0) s = augL (aug (EPt l m) m.length fu) i (aftK (EPt l m) m.length i k) s1) (fun z => match z with | (k, s1) => [(0, .slice a l.length c), (1, .slice b m.length d), (2, .int .i64 (i : Int)), (7, ptr b7), (8, ptr b8), (9, .bool false), (10, .int .i64 (k : Int))]) (fun z => match z with | (k, s1) => iseg ob m.length s1.mate :: bseg tr m.length s1.tried :: [(b7, Obj.cells #[.slice (some ⟨ob, 0, none⟩) m.length m.length, .slice (some ⟨tr, 0, none⟩) m.length m.length] 100 (0, 0))] :: [(b8, Obj.cells #[.slice none 0 0, .slice none 0 0] 100 (0, 0))] :: η) (fun z => m.length - z.1) (0, s) ⟨Nat.zero_le _, ⟨hok, fun _ _ h => h⟩, rfl⟩ ⟨rfl, rfl, rfl, rfl, rfl, rfl, rfl, trivial⟩ rfl ?_
 rintro ⟨k, s1⟩ ⟨hk, hkp, hag⟩
 refine T.seq ?_
 refine T.seq ?_
 refine T.region ?_
 refine TL.move hF rfl rfl ?_
 refine TL.move hF rfl rfl ?_
 refine TL.len hF rfl rfl ?_
 refine TL.bin hF rfl rfl rfl rfl ?_
 refine TL.nil ?_
 refine TQ.then_n ?_
 first | refine T.cond_d rfl (fun ht16 => ?_) (fun ht16 => ?_) | refine T.cond _ rfl (fun ht16 => ?_) (fun ht16 => ?_)
 ·refine T.skip ?_
  refine TQ.then_n ?_
  refine T.seq ?_
  refine T.block ?_
  refine T.seq ?_
  refine T.seq ?_
  have hkm : k < m.length := by have h : (k : Int) < (m.length : Int) := ht16; omega
  rw [aftK_step hkm] at hag
  have hE : EPt l m i k = partI l[i] m[k] := by
   unfold EPt; rw [List.getD_eq_getElem?_getD, List.getElem?_eq_getElem hi, List.getD_eq_getElem?_getD, List.getElem?_eq_getElem hkm]; rfl
  rcases htk : s1.tried k with _ | _
  rotate_left
  ·refine T.draw ?_
   refine DR.stepV [_] rfl [(7, _, none)] rfl rfl ⟨⟨rfl, by kernel_rfl⟩, trivial⟩ (fun ext => TL.fieldAddr hF rfl rfl TL.fin) ?_
   refine DR.stepV [_, _] rfl [(19, _, some 0)] rfl rfl ⟨⟨rfl, rfl, rfl⟩, trivial⟩ (fun ext => TL.load hF rfl (own_mem (cs := #[.slice (some ⟨ob, 0, none⟩) m.length m.length, .slice (some ⟨tr, 0, none⟩) m.length m.length]) (e := 100) (fz := (0, 0)) (by simp) rfl) rfl TL.fin) ?_
   refine DR.stepV [_, _, _] rfl [(10, _, none)] rfl rfl ⟨⟨rfl, by kernel_rfl⟩, trivial⟩ (fun ext => TL.move hF rfl rfl TL.fin) ?_
   refine DR.stepV [_, _, _, _] rfl [(20, _, some 1), (21, _, some 2)] rfl rfl ⟨⟨rfl, rfl, rfl⟩, ⟨rfl, rfl, rfl⟩, trivial⟩ (fun ext => TL.indexAddr hF rfl rfl ⟨_, rfl, rfl⟩ (by omega) (by omega) rfl TL.fin) ?_
   refine DR.stepV [_, _, _, _, _] rfl [(22, _, some 3)] rfl rfl ⟨⟨rfl, rfl, rfl⟩, trivial⟩ (fun ext => TL.load hF rfl (bseg_at (f := s1.tried) (n := m.length) (b := tr) (j := k) (by simp) hkm) rfl TL.fin) ?_
   refine DR.stepV [_, _, _, _, _, _] rfl [(23, _, some 4)] rfl rfl ⟨⟨rfl, rfl, rfl⟩, trivial⟩ (fun ext => TL.move hF rfl rfl TL.fin) ?_
   refine DR.stepV [_, _, _, _, _, _, _] rfl [(0, _, none), (24, _, some 5)] rfl rfl ⟨⟨rfl, by kernel_rfl⟩, ⟨rfl, rfl, rfl⟩, trivial⟩ (fun ext => TL.off hF rfl rfl rfl (by simp [htk]) rfl TL.fin) ?_
   refine DR.stepV [_, _, _, _, _, _, _, _] rfl [(2, _, none), (24, _, some 5)] rfl rfl ⟨⟨rfl, by kernel_rfl⟩, ⟨rfl, rfl, rfl⟩, trivial⟩ (fun ext => TL.off hF rfl rfl rfl (by simp [htk]) rfl TL.fin) ?_
   refine DR.stepV [_, _, _, _, _, _, _, _, _] rfl [(25, _, some 6), (26, _, some 7), (24, _, some 5)] rfl rfl ⟨⟨rfl, rfl, rfl⟩, ⟨rfl, rfl, rfl⟩, ⟨rfl, rfl, rfl⟩, trivial⟩ (fun ext => TL.off hF rfl rfl rfl (by simp [htk]) rfl TL.fin) ?_
   refine DR.stepV [_, _, _, _, _, _, _, _, _, _] rfl [(27, _, some 8), (24, _, some 5)] rfl rfl ⟨⟨rfl, rfl, rfl⟩, ⟨rfl, rfl, rfl⟩, trivial⟩ (fun ext => TL.off hF rfl rfl rfl (by simp [htk]) rfl TL.fin) ?_
   refine DR.stepV [_, _, _, _, _, _, _, _, _, _, _] rfl [(1, _, none), (24, _, some 5)] rfl rfl ⟨⟨rfl, by kernel_rfl⟩, ⟨rfl, rfl, rfl⟩, trivial⟩ (fun ext => TL.off hF rfl rfl rfl (by simp [htk]) rfl TL.fin) ?_
   refine DR.stepV [_, _, _, _, _, _, _, _, _, _, _, _] rfl [(10, _, none), (24, _, some 5)] rfl rfl ⟨⟨rfl, by kernel_rfl⟩, ⟨rfl, rfl, rfl⟩, trivial⟩ (fun ext => TL.off hF rfl rfl rfl (by simp [htk]) rfl TL.fin) ?_
   refine DR.stepV [_, _, _, _, _, _, _, _, _, _, _, _, _] rfl [(29, _, some 10), (30, _, some 11), (24, _, some 5)] rfl rfl ⟨⟨rfl, rfl, rfl⟩, ⟨rfl, rfl, rfl⟩, ⟨rfl, rfl, rfl⟩, trivial⟩ (fun ext => TL.off hF rfl rfl rfl (by simp [htk]) rfl TL.fin) ?_
   refine DR.stepV [_, _, _, _, _, _, _, _, _, _, _, _, _, _] rfl [(31, _, some 12), (24, _, some 5)] rfl rfl ⟨⟨rfl, rfl, rfl⟩, ⟨rfl, rfl, rfl⟩, trivial⟩ (fun ext => TL.off hF rfl rfl rfl (by simp [htk]) rfl TL.fin) ?_
   refine DR.done [(32, _), (31, _), (30, _), (29, _), (28, _), (27, _), (26, _), (25, _), (24, _), (23, _), (22, _), (21, _), (20, _), (19, _)] [_, _, _] mixed (by kernel_rfl) (by kernel_rfl) (by kernel_rfl) rfl rfl ?_
   refine TL.off hF rfl rfl rfl (by simp [htk]) rfl ?_
   refine TL.off hF rfl rfl rfl (by simp [htk]) rfl ?_
   refine TL.pickT hF rfl (by simp [htk]) rfl rfl ?_
   refine TL.nil ?_
   refine TQ.then_n ?_
   refine T.cond_t rfl rfl ?_
   refine T.exit ?_
   refine TQ.then_x ?_
   refine TQ.block_x ?_
   refine TQ.then_n ?_
   refine T.region ?_
   refine TL.move hF rfl rfl ?_
   refine TL.add hF rfl rfl (by omega) (by omega) rfl ?_
   refine TL.assign hF rfl rfl ?_
   refine TL.nil ?_
   have hag2 : augL (aug (EPt l m) m.length fu) i (aftK (EPt l m) m.length i 0) s = augL (aug (EPt l m) m.length fu) i (aftK (EPt l m) m.length i (k + 1)) s1 := by
    rw [hag]
    split
    ·simp only [augL]; rw [if_pos htk]
    ·rfl
   exact TQ.round (k + 1, s1) ⟨by omega, hkp, hag2⟩ (by dsimp only; omega) ⟨rfl, rfl, rfl, rfl, rfl, rfl, rfl, trivial⟩ rfl
  ·refine T.draw ?_
   refine DR.stepV [_] rfl [(7, _, none)] rfl rfl ⟨⟨rfl, by kernel_rfl⟩, trivial⟩ (fun ext => TL.fieldAddr hF rfl rfl TL.fin) ?_
   refine DR.stepV [_, _] rfl [(19, _, some 0)] rfl rfl ⟨⟨rfl, rfl, rfl⟩, trivial⟩ (fun ext => TL.load hF rfl (own_mem (cs := #[.slice (some ⟨ob, 0, none⟩) m.length m.length, .slice (some ⟨tr, 0, none⟩) m.length m.length]) (e := 100) (fz := (0, 0)) (by simp) rfl) rfl TL.fin) ?_
   refine DR.stepV [_, _, _] rfl [(10, _, none)] rfl rfl ⟨⟨rfl, by kernel_rfl⟩, trivial⟩ (fun ext => TL.move hF rfl rfl TL.fin) ?_
   refine DR.stepV [_, _, _, _] rfl [(20, _, some 1), (21, _, some 2)] rfl rfl ⟨⟨rfl, rfl, rfl⟩, ⟨rfl, rfl, rfl⟩, trivial⟩ (fun ext => TL.indexAddr hF rfl rfl ⟨_, rfl, rfl⟩ (by omega) (by omega) rfl TL.fin) ?_
   refine DR.stepV [_, _, _, _, _] rfl [(22, _, some 3)] rfl rfl ⟨⟨rfl, rfl, rfl⟩, trivial⟩ (fun ext => TL.load hF rfl (bseg_at (f := s1.tried) (n := m.length) (b := tr) (j := k) (by simp) hkm) rfl TL.fin) ?_
   refine DR.stepV [_, _, _, _, _, _] rfl [(23, _, some 4)] rfl rfl ⟨⟨rfl, rfl, rfl⟩, trivial⟩ (fun ext => TL.move hF rfl rfl TL.fin) ?_
   refine DR.stepV [_, _, _, _, _, _, _] rfl [(0, _, none), (24, _, some 5)] rfl rfl ⟨⟨rfl, by kernel_rfl⟩, ⟨rfl, rfl, rfl⟩, trivial⟩ (fun ext => TL.on rfl rfl rfl (by simp [htk]) <| TL.move hF rfl rfl TL.fin) ?_
   refine DR.stepV [_, _, _, _, _, _, _, _] rfl [(2, _, none), (24, _, some 5)] rfl rfl ⟨⟨rfl, by kernel_rfl⟩, ⟨rfl, rfl, rfl⟩, trivial⟩ (fun ext => TL.on rfl rfl rfl (by simp [htk]) <| TL.move hF rfl rfl TL.fin) ?_
   refine DR.stepV [_, _, _, _, _, _, _, _, _] rfl [(25, _, some 6), (26, _, some 7), (24, _, some 5)] rfl rfl ⟨⟨rfl, rfl, rfl⟩, ⟨rfl, rfl, rfl⟩, ⟨rfl, rfl, rfl⟩, trivial⟩ (fun ext => TL.on rfl rfl rfl (by simp [htk]) <| TL.indexAddr hF rfl rfl (hx.adi (i := i) (by simp; omega)) (by omega) (by omega) rfl TL.fin) ?_
   refine DR.stepV [_, _, _, _, _, _, _, _, _, _] rfl [(27, _, some 8), (24, _, some 5)] rfl rfl ⟨⟨rfl, rfl, rfl⟩, ⟨rfl, rfl, rfl⟩, trivial⟩ (fun ext => TL.on rfl rfl rfl (by simp [htk]) <| TL.load hF rfl (hx.ro.int (i := i) hi) rfl TL.fin) ?_
   refine DR.stepV [_, _, _, _, _, _, _, _, _, _, _] rfl [(1, _, none), (24, _, some 5)] rfl rfl ⟨⟨rfl, by kernel_rfl⟩, ⟨rfl, rfl, rfl⟩, trivial⟩ (fun ext => TL.on rfl rfl rfl (by simp [htk]) <| TL.move hF rfl rfl TL.fin) ?_
   refine DR.stepV [_, _, _, _, _, _, _, _, _, _, _, _] rfl [(10, _, none), (24, _, some 5)] rfl rfl ⟨⟨rfl, by kernel_rfl⟩, ⟨rfl, rfl, rfl⟩, trivial⟩ (fun ext => TL.on rfl rfl rfl (by simp [htk]) <| TL.move hF rfl rfl TL.fin) ?_
   refine DR.stepV [_, _, _, _, _, _, _, _, _, _, _, _, _] rfl [(29, _, some 10), (30, _, some 11), (24, _, some 5)] rfl rfl ⟨⟨rfl, rfl, rfl⟩, ⟨rfl, rfl, rfl⟩, ⟨rfl, rfl, rfl⟩, trivial⟩ (fun ext => TL.on rfl rfl rfl (by simp [htk]) <| TL.indexAddr hF rfl rfl (hy.adi (i := k) (by simp; omega)) (by omega) (by omega) rfl TL.fin) ?_
   refine DR.stepV [_, _, _, _, _, _, _, _, _, _, _, _, _, _] rfl [(31, _, some 12), (24, _, some 5)] rfl rfl ⟨⟨rfl, rfl, rfl⟩, ⟨rfl, rfl, rfl⟩, trivial⟩ (fun ext => TL.on rfl rfl rfl (by simp [htk]) <| TL.load hF rfl (hy.ro.int (i := k) hkm) rfl TL.fin) ?_
   refine DR.done [(32, _), (31, _), (30, _), (29, _), (28, _), (27, _), (26, _), (25, _), (24, _), (23, _), (22, _), (21, _), (20, _), (19, _)] [_, _, _] mixed (by kernel_rfl) (by kernel_rfl) (by kernel_rfl) rfl rfl ?_
   refine TL.on rfl rfl rfl (by simp [htk]) ?_
   refine TL.callV hF (Part_fn (hsl _ (List.getElem_mem hi)) (hsm _ (List.getElem_mem hkm))) rfl rfl ?_
   refine TL.on rfl rfl rfl (by simp [htk]) ?_
   refine TL.not hF rfl rfl ?_
   refine TL.pickF hF rfl (by simp [htk]) rfl rfl ?_
   refine TL.nil ?_
   refine TQ.then_n ?_
   refine T.cond _ rfl (fun ht35 => ?_) (fun ht35 => ?_)
   ·refine T.exit ?_
    refine TQ.then_x ?_
    refine TQ.block_x ?_
    refine TQ.then_n ?_
    refine T.region ?_
    refine TL.move hF rfl rfl ?_
    refine TL.add hF rfl rfl (by omega) (by omega) rfl ?_
    refine TL.assign hF rfl rfl ?_
    refine TL.nil ?_
    rw [if_neg (show ¬ EPt l m i k = true by rw [hE]; simpa using ht35)] at hag
    exact TQ.round (k + 1, s1) ⟨by omega, hkp, hag⟩ (by dsimp only; omega) ⟨rfl, rfl, rfl, rfl, rfl, rfl, rfl, trivial⟩ rfl
   ·refine T.skip ?_
    refine TQ.then_n ?_
    refine T.seq ?_
    refine T.region ?_
    refine TL.fieldAddr hF rfl rfl ?_
    refine TL.load hF rfl (own_mem (cs := #[.slice (some ⟨ob, 0, none⟩) m.length m.length, .slice (some ⟨tr, 0, none⟩) m.length m.length]) (e := 100) (fz := (0, 0)) (by simp) rfl) rfl ?_
    refine TL.move hF rfl rfl ?_
    refine TL.indexAddr hF rfl rfl ⟨_, rfl, rfl⟩ (by omega) (by omega) rfl ?_
    refine TL.storeI hF 1 rfl rfl rfl rfl (by simp [rowC_len]; omega) ?_
    refine TL.nil ?_
    refine TQ.then_n ?_
    refine T.seq ?_
    refine T.seq ?_
    refine T.region ?_
    refine TL.heap (η' := iseg ob m.length (s1.try' k).mate :: bseg tr m.length (s1.try' k).tried :: [(b7, Obj.cells #[.slice (some ⟨ob, 0, none⟩) m.length m.length, .slice (some ⟨tr, 0, none⟩) m.length m.length] 100 (0, 0))] :: [(b8, Obj.cells #[.slice none 0 0, .slice none 0 0] 100 (0, 0))] :: η) (congrArg (fun z : Seg => iseg ob m.length s1.mate :: z :: [(b7, Obj.cells #[.slice (some ⟨ob, 0, none⟩) m.length m.length, .slice (some ⟨tr, 0, none⟩) m.length m.length] 100 (0, 0))] :: [(b8, Obj.cells #[.slice none 0 0, .slice none 0 0] 100 (0, 0))] :: η) (bseg_updU (b := tr) (n := m.length) (f := s1.tried) (v := true) (k := 0 + ((k : Nat) : Int).toNat * 1) (j := k) (by simp))) ?_
    rw [if_pos (show EPt l m i k = true by rw [hE]; simpa using ht35)] at hag
    have hun : unt m.length (s1.try' k).tried < unt m.length s1.tried := unt_upd hkm htk
    have hun2 : unt m.length s1.tried ≤ unt m.length s.tried := unt_mono hkp.2
    have hmj := hkp.1 k hkm
    simp only [augL] at hag
    rw [if_neg (by rw [htk]; decide)] at hag
    refine TL.fieldAddr hF rfl rfl ?_
    refine TL.load hF rfl (own_mem (cs := #[.slice (some ⟨ob, 0, none⟩) m.length m.length, .slice (some ⟨tr, 0, none⟩) m.length m.length]) (e := 100) (fz := (0, 0)) (by simp) rfl) rfl ?_
    refine TL.move hF rfl rfl ?_
    refine TL.indexAddr hF rfl rfl ⟨_, rfl, rfl⟩ (by omega) (by omega) rfl ?_
    refine TL.load hF rfl (iseg_at (f := (s1.try' k).mate) (n := m.length) (b := ob) (j := k) (by simp) hkm) rfl ?_
    refine TL.bin hF rfl rfl rfl rfl ?_
    refine TL.nil ?_
    refine TQ.then_n ?_
    refine T.cond_d rfl (fun hmt => ?_) (fun hmt => ?_)
    ·refine T.seq ?_
     refine T.region ?_
     refine TL.fieldAddr hF rfl rfl ?_
     refine TL.load hF rfl (own_mem (cs := #[.slice (some ⟨ob, 0, none⟩) m.length m.length, .slice (some ⟨tr, 0, none⟩) m.length m.length]) (e := 100) (fz := (0, 0)) (by simp) rfl) rfl ?_
     refine TL.move hF rfl rfl ?_
     refine TL.move hF rfl rfl ?_
     refine TL.indexAddr hF rfl rfl ⟨_, rfl, rfl⟩ (by omega) (by omega) rfl ?_
     refine TL.storeI hF 0 rfl rfl rfl rfl (by simp [intC_len]; omega) ?_
     refine TL.nil ?_
     refine TQ.then_n ?_
     refine T.seq ?_
     refine T.region ?_
     refine TL.loadA hF [.slice (some ⟨ob, 0, none⟩) m.length m.length, .slice (some ⟨tr, 0, none⟩) m.length m.length] rfl rfl (own_listM (e := 100) (fz := (0, 0)) (cs := [.slice (some ⟨ob, 0, none⟩) m.length m.length, .slice (some ⟨tr, 0, none⟩) m.length m.length]) (by simp)) rfl ?_
     refine TL.storeAI hF [.slice (some ⟨ob, 0, none⟩) m.length m.length, .slice (some ⟨tr, 0, none⟩) m.length m.length] 3 rfl rfl rfl rfl (by simp [Value.oneCell']) (by simp) ?_
     refine TL.assign hF rfl rfl ?_
     refine TL.nil ?_
     refine TQ.then_n ?_
     refine T.ret ?_
     refine TQ.then_r ?_
     refine TQ.block_r ?_
     refine TQ.then_r ?_
     refine TQ.then_r ?_
     refine TQ.block_r ?_
     refine TQ.then_r ?_
     rw [if_pos (show s1.mate k < 0 from hmt)] at hag
     refine TQ.retCT [.slice (some ⟨ob, 0, none⟩) m.length m.length, .slice (some ⟨tr, 0, none⟩) m.length m.length] (iseg ob m.length ((s1.try' k).link i k).mate :: bseg tr m.length (s1.try' k).tried :: η) rfl rfl rfl rfl (own_list (i := 3) rfl) ?_ ?_
     ·have e : iseg ob m.length ((s1.try' k).link i k).mate = [(ob, Obj.cells ((intC m.length (s1.try' k).mate).toArray.setIfInBounds (0 + ((k : Nat) : Int).toNat * 1) (.int .i64 (i : Int))) 3 (0, 0))] := (iseg_updU (b := ob) (n := m.length) (f := (s1.try' k).mate) (v := (i : Int)) (k := 0 + ((k : Nat) : Int).toNat * 1) (j := k) (by simp)).symm
      rw [e]
      exact List.Sublist.cons_cons _ (List.Sublist.cons_cons _ (List.Sublist.cons _ (List.sublist_cons_self _ _)))
     ·rw [hag]; exact ⟨rfl, rfl⟩
    ·refine T.skip ?_
     refine TQ.then_n ?_
     refine T.seq ?_
     have hmt : ¬ s1.mate k < 0 := hmt
     rw [if_neg hmt] at hag
     refine T.drawH 14 mixed ?_
     refine DH.pure (i := 0) [(0, _, none)] rfl rfl rfl rfl ⟨⟨rfl, by kernel_rfl⟩, trivial⟩ (fun _ ext => TL.move hF rfl rfl TL.fin) ?_
     refine DH.pure (i := 1) [(1, _, none)] rfl rfl rfl rfl ⟨⟨rfl, by kernel_rfl⟩, trivial⟩ (fun _ ext => TL.move hF rfl rfl TL.fin) ?_
     refine DH.pure (i := 2) [(7, _, none)] rfl rfl rfl rfl ⟨⟨rfl, by kernel_rfl⟩, trivial⟩ (fun _ ext => TL.fieldAddr hF rfl rfl TL.fin) ?_
     refine DH.read (i := 3) [(55, _, some 2)] rfl rfl rfl rfl ⟨⟨rfl, rfl, rfl⟩, trivial⟩ (fun ext => TL.load hF rfl (own_mem (cs := #[.slice (some ⟨ob, 0, none⟩) m.length m.length, .slice (some ⟨tr, 0, none⟩) m.length m.length]) (e := 100) (fz := (0, 0)) (by simp) rfl) rfl TL.fin) ?_
     refine DH.pure (i := 4) [(10, _, none)] rfl rfl rfl rfl ⟨⟨rfl, by kernel_rfl⟩, trivial⟩ (fun _ ext => TL.move hF rfl rfl TL.fin) ?_
     refine DH.pure (i := 5) [(56, _, some 3), (57, _, some 4)] rfl rfl rfl rfl ⟨⟨rfl, rfl, rfl⟩, ⟨rfl, rfl, rfl⟩, trivial⟩ (fun _ ext => TL.indexAddr hF rfl rfl ⟨_, rfl, rfl⟩ (by omega) (by omega) rfl TL.fin) ?_
     refine DH.read (i := 6) [(58, _, some 5)] rfl rfl rfl rfl ⟨⟨rfl, rfl, rfl⟩, trivial⟩ (fun ext => TL.load hF rfl (iseg_at (f := (s1.try' k).mate) (n := m.length) (b := ob) (j := k) (by simp) hkm) rfl TL.fin) ?_
     refine DH.read (i := 7) [(7, _, none)] rfl rfl rfl rfl ⟨⟨rfl, by kernel_rfl⟩, trivial⟩ (fun ext => TL.loadA hF [.slice (some ⟨ob, 0, none⟩) m.length m.length, .slice (some ⟨tr, 0, none⟩) m.length m.length] rfl rfl (own_listM (e := 100) (fz := (0, 0)) (cs := [.slice (some ⟨ob, 0, none⟩) m.length m.length, .slice (some ⟨tr, 0, none⟩) m.length m.length]) (by simp)) rfl TL.fin) ?_
     refine DH.k2 (by kernel_rfl) (by kernel_rfl) (by kernel_rfl) (by kernel_rfl) (HBK.mk (h := 8) [] [(53, _, some 0), (54, _, some 1), (59, _, some 6), (60, _, some 7)] rfl rfl rfl ⟨⟨rfl, rfl, rfl⟩, ⟨rfl, rfl, rfl⟩, ⟨rfl, rfl, rfl⟩, ⟨rfl, rfl, rfl⟩, trivial⟩ (by kernel_rfl) (fun ext => ?_)) (HBK.mk (h := 12) [3, 6, 7] [] rfl rfl rfl trivial (by kernel_rfl) (fun ext => ?_))
     ·have hrec := ih (η := [(b7, Obj.cells #[.slice (some ⟨ob, 0, none⟩) m.length m.length, .slice (some ⟨tr, 0, none⟩) m.length m.length] 100 (0, 0))] :: [(b8, Obj.cells #[.slice none 0 0, .slice none 0 0] 100 (0, 0))] :: η) (i := (s1.mate k).toNat) (s := s1.try' k) (by omega) hkp.1 (by omega)
      rw [Int.toNat_of_nonneg (show 0 ≤ s1.mate k by omega)] at hrec
      refine TL.call hF hrec rfl rfl ?_
      rintro _ _ ⟨rfl, rfl⟩
      refine TL.finK trivial ?_
      refine DH.pure (i := 9) [(61, _, some 8)] rfl rfl rfl rfl ⟨⟨rfl, rfl, rfl⟩, trivial⟩ (fun _ ext => TL.move hF rfl rfl TL.fin) ?_
      refine DH.pure (i := 10) [(52, _, some 9)] rfl rfl rfl rfl ⟨⟨rfl, rfl, rfl⟩, trivial⟩ (fun _ ext => TL.extract hF rfl rfl rfl TL.fin) ?_
      refine DH.pure (i := 11) [(52, _, some 9)] rfl rfl rfl rfl ⟨⟨rfl, rfl, rfl⟩, trivial⟩ (fun _ ext => TL.extract hF rfl rfl rfl TL.fin) ?_
      refine DH.heavy 12 [] (by kernel_rfl) (by kernel_rfl) (by kernel_rfl) (by kernel_rfl) rfl rfl rfl rfl trivial (by kernel_rfl) (fun ext => ?_)
      refine TL.alloc hF rfl (fun b11 => ?_)
      refine TL.finD ?_
      refine DH.k1 (by kernel_rfl) (by kernel_rfl) (by kernel_rfl) (by kernel_rfl) (HBK.mk (h := 13) [] [(11, _, some 12), (62, _, some 10)] rfl rfl rfl ⟨⟨rfl, rfl, rfl⟩, ⟨rfl, rfl, rfl⟩, trivial⟩ (by kernel_rfl) (fun ext => ?_))
      refine TL.storeAI hF [.slice (some ⟨ob, 0, none⟩) m.length m.length, .slice (some ⟨tr, 0, none⟩) m.length m.length] 0 rfl rfl rfl rfl (by simp [Value.oneCell']) (by simp [Value.cells]) ?_
      refine TL.finKN trivial ?_
      refine DH.done [(11, _), (63, _), (62, _), (52, _), (61, _), (60, _), (59, _), (58, _), (57, _), (56, _), (55, _), (54, _), (53, _)] [_] (by kernel_rfl) (by kernel_rfl) (by kernel_rfl) (by kernel_rfl) rfl rfl ?_
      refine TL.assign hF rfl rfl ?_
      refine TL.nil ?_
      refine TQ.then_n ?_
      refine T.seq ?_
      refine T.region ?_
      refine TL.loadA hF [.slice (some ⟨ob, 0, none⟩) m.length m.length, .slice (some ⟨tr, 0, none⟩) m.length m.length] rfl rfl (own_listM (e := 100) (fz := (0, 0)) (cs := [.slice (some ⟨ob, 0, none⟩) m.length m.length, .slice (some ⟨tr, 0, none⟩) m.length m.length]) (by simp [Value.cells])) rfl ?_
      refine TL.storeAI hF [.slice (some ⟨ob, 0, none⟩) m.length m.length, .slice (some ⟨tr, 0, none⟩) m.length m.length] 3 rfl rfl rfl rfl (by simp [Value.oneCell']) (by simp) ?_
      refine TL.nil ?_
      refine TQ.then_n ?_
      refine T.seq ?_
      refine T.region ?_
      refine TL.move hF rfl rfl ?_
      refine TL.nil ?_
      refine TQ.then_n ?_
      refine T.cond _ rfl (fun ht65 => ?_) (fun ht65 => ?_)
      ·refine T.seq ?_
       refine T.region ?_
       refine TL.fieldAddr hF rfl rfl ?_
       refine TL.load hF rfl (own_mem (cs := #[.slice (some ⟨ob, 0, none⟩) m.length m.length, .slice (some ⟨tr, 0, none⟩) m.length m.length]) (e := 100) (fz := (0, 0)) (by simp [Value.cells]) rfl) rfl ?_
       refine TL.move hF rfl rfl ?_
       refine TL.move hF rfl rfl ?_
       refine TL.indexAddr hF rfl rfl ⟨_, rfl, rfl⟩ (by omega) (by omega) rfl ?_
       refine TL.storeI hF 1 rfl rfl rfl rfl (by simp [intC_len]; omega) ?_
       refine TL.nil ?_
       refine TQ.then_n ?_
       refine T.seq ?_
       refine T.region ?_
       refine TL.loadA hF [.slice (some ⟨ob, 0, none⟩) m.length m.length, .slice (some ⟨tr, 0, none⟩) m.length m.length] rfl rfl (own_listM (e := 100) (fz := (0, 0)) (cs := [.slice (some ⟨ob, 0, none⟩) m.length m.length, .slice (some ⟨tr, 0, none⟩) m.length m.length]) (by simp [Value.cells])) rfl ?_
       refine TL.storeAI hF [.slice (some ⟨ob, 0, none⟩) m.length m.length, .slice (some ⟨tr, 0, none⟩) m.length m.length] 4 rfl rfl rfl rfl (by simp [Value.oneCell']) (by simp) ?_
       refine TL.assign hF rfl rfl ?_
       refine TL.nil ?_
       refine TQ.then_n ?_
       refine T.ret ?_
       refine TQ.block_r ?_
       refine TQ.then_r ?_
       refine TQ.then_r ?_
       refine TQ.block_r ?_
       refine TQ.then_r ?_
       rw [if_pos ht65] at hag
       refine TQ.retCT [.slice (some ⟨ob, 0, none⟩) m.length m.length, .slice (some ⟨tr, 0, none⟩) m.length m.length] (iseg ob m.length (((aug (EPt l m) m.length fu) (s1.mate k).toNat (s1.try' k)).1.link i k).mate :: bseg tr m.length ((aug (EPt l m) m.length fu) (s1.mate k).toNat (s1.try' k)).1.tried :: η) rfl rfl rfl rfl (own_list (i := 4) rfl) ?_ ?_
       ·have e : iseg ob m.length (((aug (EPt l m) m.length fu) (s1.mate k).toNat (s1.try' k)).1.link i k).mate = [(ob, Obj.cells ((intC m.length ((aug (EPt l m) m.length fu) (s1.mate k).toNat (s1.try' k)).1.mate).toArray.setIfInBounds (0 + ((k : Nat) : Int).toNat * 1) (.int .i64 (i : Int))) 3 (0, 0))] := (iseg_updU (b := ob) (n := m.length) (f := ((aug (EPt l m) m.length fu) (s1.mate k).toNat (s1.try' k)).1.mate) (v := (i : Int)) (k := 0 + ((k : Nat) : Int).toNat * 1) (j := k) (by simp)).symm
        rw [e]
        exact List.Sublist.cons _ (List.Sublist.cons_cons _ (List.Sublist.cons_cons _ (List.Sublist.cons _ (List.sublist_cons_self _ _))))
       ·rw [hag]; exact ⟨rfl, rfl⟩
      ·refine T.skip ?_
       refine TQ.block_n ?_
       refine TQ.then_n ?_
       refine T.region ?_
       refine TL.move hF rfl rfl ?_
       refine TL.add hF rfl rfl (by omega) (by omega) rfl ?_
       refine TL.assign hF rfl rfl ?_
       refine TL.nil ?_
       rw [if_neg (show ¬ ((aug (EPt l m) m.length fu) (s1.mate k).toNat (s1.try' k)).2 = true by rw [ht65]; decide)] at hag
       refine TQ.pick [1, 2, 3, 4] [_, _, _, _, _] rfl rfl rfl ?_
       exact TQ.round (k + 1, ((aug (EPt l m) m.length fu) (s1.mate k).toNat (s1.try' k)).1) ⟨by omega, hkp.try_.trans (aug_keepK fu _ _ (by omega) hkp.1), hag⟩ (by dsimp only; omega) ⟨rfl, rfl, rfl, rfl, rfl, rfl, rfl, trivial⟩ rfl
     ·refine TL.alloc hF rfl (fun b11 => ?_)
      refine TL.finK ⟨⟨_, rfl, _, _, [(55, _, some 2)], rfl, rfl, ⟨⟨rfl, rfl, rfl⟩, trivial⟩, fun ext => TL.load hF rfl (own_mem (cs := #[.slice (some ⟨ob, 0, none⟩) m.length m.length, .slice (some ⟨tr, 0, none⟩) m.length m.length]) (e := 100) (fz := (0, 0)) (by simp [Value.cells]) rfl) rfl TL.fin⟩, ⟨_, rfl, _, _, [(58, _, some 5)], rfl, rfl, ⟨⟨rfl, rfl, rfl⟩, trivial⟩, fun ext => TL.load hF rfl (iseg_at (f := (s1.try' k).mate) (n := m.length) (b := ob) (j := k) (by simp) hkm) rfl TL.fin⟩, ⟨_, rfl, _, _, [(7, _, none)], rfl, rfl, ⟨⟨rfl, by kernel_rfl⟩, trivial⟩, fun ext => TL.loadA hF [.slice (some ⟨ob, 0, none⟩) m.length m.length, .slice (some ⟨tr, 0, none⟩) m.length m.length] rfl rfl (own_listM (e := 100) (fz := (0, 0)) (cs := [.slice (some ⟨ob, 0, none⟩) m.length m.length, .slice (some ⟨tr, 0, none⟩) m.length m.length]) (by simp [Value.cells])) rfl TL.fin⟩, trivial⟩ ?_
      refine DH.heavy 8 [(53, _, some 0), (54, _, some 1), (59, _, some 6), (60, _, some 7)] (by kernel_rfl) (by kernel_rfl) (by kernel_rfl) (by kernel_rfl) rfl rfl rfl rfl ⟨⟨rfl, rfl, rfl⟩, ⟨rfl, rfl, rfl⟩, ⟨rfl, rfl, rfl⟩, ⟨rfl, rfl, rfl⟩, trivial⟩ (by kernel_rfl) (fun ext => ?_)
      refine TL.pick' [1, 2, 0, 3, 4] [_, _, _, _, _] rfl rfl rfl ?_
      have hrec := ih (η := [(b11, Obj.cells (Value.agg #[.slice none 0 0, .slice none 0 0]).cells 100 (0, 0))] :: [(b7, Obj.cells #[.slice (some ⟨ob, 0, none⟩) m.length m.length, .slice (some ⟨tr, 0, none⟩) m.length m.length] 100 (0, 0))] :: [(b8, Obj.cells #[.slice none 0 0, .slice none 0 0] 100 (0, 0))] :: η) (i := (s1.mate k).toNat) (s := s1.try' k) (by omega) hkp.1 (by omega)
      rw [Int.toNat_of_nonneg (show 0 ≤ s1.mate k by omega)] at hrec
      refine TL.call hF hrec rfl rfl ?_
      rintro _ _ ⟨rfl, rfl⟩
      refine TL.pick' [2, 0, 1, 3, 4] [_, _, _, _, _] rfl rfl rfl ?_
      refine TL.finD ?_
      refine DH.pure (i := 9) [(61, _, some 8)] rfl rfl rfl rfl ⟨⟨rfl, rfl, rfl⟩, trivial⟩ (fun _ ext => TL.move hF rfl rfl TL.fin) ?_
      refine DH.pure (i := 10) [(52, _, some 9)] rfl rfl rfl rfl ⟨⟨rfl, rfl, rfl⟩, trivial⟩ (fun _ ext => TL.extract hF rfl rfl rfl TL.fin) ?_
      refine DH.pure (i := 11) [(52, _, some 9)] rfl rfl rfl rfl ⟨⟨rfl, rfl, rfl⟩, trivial⟩ (fun _ ext => TL.extract hF rfl rfl rfl TL.fin) ?_
      refine DH.k1 (by kernel_rfl) (by kernel_rfl) (by kernel_rfl) (by kernel_rfl) (HBK.mk (h := 13) [] [(11, _, some 12), (62, _, some 10)] rfl rfl rfl ⟨⟨rfl, rfl, rfl⟩, ⟨rfl, rfl, rfl⟩, trivial⟩ (by kernel_rfl) (fun ext => ?_))
      refine TL.storeAI hF [.slice (some ⟨ob, 0, none⟩) m.length m.length, .slice (some ⟨tr, 0, none⟩) m.length m.length] 0 rfl rfl rfl rfl (by simp [Value.oneCell']) (by simp [Value.cells]) ?_
      refine TL.finKN trivial ?_
      refine DH.done [(63, _), (62, _), (52, _), (61, _), (11, _), (60, _), (59, _), (58, _), (57, _), (56, _), (55, _), (54, _), (53, _)] [_] (by kernel_rfl) (by kernel_rfl) (by kernel_rfl) (by kernel_rfl) rfl rfl ?_
      refine TL.assign hF rfl rfl ?_
      refine TL.nil ?_
      refine TQ.then_n ?_
      refine T.seq ?_
      refine T.region ?_
      refine TL.loadA hF [.slice (some ⟨ob, 0, none⟩) m.length m.length, .slice (some ⟨tr, 0, none⟩) m.length m.length] rfl rfl (own_listM (e := 100) (fz := (0, 0)) (cs := [.slice (some ⟨ob, 0, none⟩) m.length m.length, .slice (some ⟨tr, 0, none⟩) m.length m.length]) (by simp [Value.cells, pickL])) rfl ?_
      refine TL.storeAI hF [.slice (some ⟨ob, 0, none⟩) m.length m.length, .slice (some ⟨tr, 0, none⟩) m.length m.length] 3 rfl rfl rfl rfl (by simp [Value.oneCell']) (by simp) ?_
      refine TL.nil ?_
      refine TQ.then_n ?_
      refine T.seq ?_
      refine T.region ?_
      refine TL.move hF rfl rfl ?_
      refine TL.nil ?_
      refine TQ.then_n ?_
      refine T.cond _ rfl (fun ht65 => ?_) (fun ht65 => ?_)
      ·refine T.seq ?_
       refine T.region ?_
       refine TL.fieldAddr hF rfl rfl ?_
       refine TL.load hF rfl (own_mem (cs := #[.slice (some ⟨ob, 0, none⟩) m.length m.length, .slice (some ⟨tr, 0, none⟩) m.length m.length]) (e := 100) (fz := (0, 0)) (by simp [Value.cells, pickL]) rfl) rfl ?_
       refine TL.move hF rfl rfl ?_
       refine TL.move hF rfl rfl ?_
       refine TL.indexAddr hF rfl rfl ⟨_, rfl, rfl⟩ (by omega) (by omega) rfl ?_
       refine TL.storeI hF 1 rfl rfl rfl rfl (by simp [intC_len]; omega) ?_
       refine TL.nil ?_
       refine TQ.then_n ?_
       refine T.seq ?_
       refine T.region ?_
       refine TL.loadA hF [.slice (some ⟨ob, 0, none⟩) m.length m.length, .slice (some ⟨tr, 0, none⟩) m.length m.length] rfl rfl (own_listM (e := 100) (fz := (0, 0)) (cs := [.slice (some ⟨ob, 0, none⟩) m.length m.length, .slice (some ⟨tr, 0, none⟩) m.length m.length]) (by simp [Value.cells, pickL])) rfl ?_
       refine TL.storeAI hF [.slice (some ⟨ob, 0, none⟩) m.length m.length, .slice (some ⟨tr, 0, none⟩) m.length m.length] 4 rfl rfl rfl rfl (by simp [Value.oneCell']) (by simp) ?_
       refine TL.assign hF rfl rfl ?_
       refine TL.nil ?_
       refine TQ.then_n ?_
       refine T.ret ?_
       refine TQ.block_r ?_
       refine TQ.then_r ?_
       refine TQ.then_r ?_
       refine TQ.block_r ?_
       refine TQ.then_r ?_
       rw [if_pos ht65] at hag
       refine TQ.retCT [.slice (some ⟨ob, 0, none⟩) m.length m.length, .slice (some ⟨tr, 0, none⟩) m.length m.length] (iseg ob m.length (((aug (EPt l m) m.length fu) (s1.mate k).toNat (s1.try' k)).1.link i k).mate :: bseg tr m.length ((aug (EPt l m) m.length fu) (s1.mate k).toNat (s1.try' k)).1.tried :: η) rfl rfl rfl rfl (own_list (i := 4) rfl) ?_ ?_
       ·have e : iseg ob m.length (((aug (EPt l m) m.length fu) (s1.mate k).toNat (s1.try' k)).1.link i k).mate = [(ob, Obj.cells ((intC m.length ((aug (EPt l m) m.length fu) (s1.mate k).toNat (s1.try' k)).1.mate).toArray.setIfInBounds (0 + ((k : Nat) : Int).toNat * 1) (.int .i64 (i : Int))) 3 (0, 0))] := (iseg_updU (b := ob) (n := m.length) (f := ((aug (EPt l m) m.length fu) (s1.mate k).toNat (s1.try' k)).1.mate) (v := (i : Int)) (k := 0 + ((k : Nat) : Int).toNat * 1) (j := k) (by simp)).symm
        rw [e]
        exact List.Sublist.cons _ (List.Sublist.cons_cons _ (List.Sublist.cons_cons _ (List.Sublist.cons _ (List.sublist_cons_self _ _))))
       ·rw [hag]; exact ⟨rfl, rfl⟩
      ·refine T.skip ?_
       refine TQ.block_n ?_
       refine TQ.then_n ?_
       refine T.region ?_
       refine TL.move hF rfl rfl ?_
       refine TL.add hF rfl rfl (by omega) (by omega) rfl ?_
       refine TL.assign hF rfl rfl ?_
       refine TL.nil ?_
       rw [if_neg (show ¬ ((aug (EPt l m) m.length fu) (s1.mate k).toNat (s1.try' k)).2 = true by rw [ht65]; decide)] at hag
       refine TQ.pick [1, 2, 3, 4] [_, _, _, _, _] rfl rfl rfl ?_
       exact TQ.round (k + 1, ((aug (EPt l m) m.length fu) (s1.mate k).toNat (s1.try' k)).1) ⟨by omega, hkp.try_.trans (aug_keepK fu _ _ (by omega) hkp.1), hag⟩ (by dsimp only; omega) ⟨rfl, rfl, rfl, rfl, rfl, rfl, rfl, trivial⟩ rfl
 ·refine T.exit ?_
  refine TQ.then_x ?_
  refine TQ.then_x ?_
  refine TQ.block_x ?_
  refine TQ.then_n ?_
  refine T.seq ?_
  refine T.region ?_
  refine TL.loadA hF [.slice (some ⟨ob, 0, none⟩) m.length m.length, .slice (some ⟨tr, 0, none⟩) m.length m.length] rfl rfl (own_listM (e := 100) (fz := (0, 0)) (cs := [.slice (some ⟨ob, 0, none⟩) m.length m.length, .slice (some ⟨tr, 0, none⟩) m.length m.length]) (by simp)) rfl ?_
  refine TL.storeAI hF [.slice (some ⟨ob, 0, none⟩) m.length m.length, .slice (some ⟨tr, 0, none⟩) m.length m.length] 3 rfl rfl rfl rfl (by simp [Value.oneCell']) (by simp) ?_
  refine TL.assign hF rfl rfl ?_
  refine TL.nil ?_
  refine TQ.then_n ?_
  refine T.ret ?_
  have hjj : ¬ (k : Int) < (m.length : Int) := ht16
  rw [aftK_end (show m.length ≤ k by omega)] at hag
  refine TQ.retCT [.slice (some ⟨ob, 0, none⟩) m.length m.length, .slice (some ⟨tr, 0, none⟩) m.length m.length] (iseg ob m.length s1.mate :: bseg tr m.length s1.tried :: η) rfl rfl rfl rfl (own_list (i := 3) rfl) (List.Sublist.cons_cons _ (List.Sublist.cons_cons _ (List.Sublist.cons _ (List.sublist_cons_self _ _)))) ?_
  rw [hag]; exact ⟨rfl, rfl⟩
end Go.Proofs.YtfnalecnnmkgbaaDoor
/- How many chains are the fewest, by the specification. -/
namespace Go.Proofs.YtfnalecnnmkgbaaDoor
open Go.Sl
variable {S : Nat → Prop} {w0 : World} {η : Heap}
set_option maxHeartbeats 2000000 in
theorem Matched_ref {a b : Option Addr} {l m : List Int} {c d : Nat} (hx : Row S w0 [] a (ints l)) (hy : Row S w0 [] b (ints m)) (hl : l.length < 4294967296) (hml : m.length < 4294967296) (hsl : Sets l) (hsm : Sets m) :
  Rt Tryd.prog 61 [.slice a l.length c, .slice b m.length d].toArray S w0 η (fun v η' => v = .int .i64 (matchN l m : Nat) ∧ η' = η) := by
 have hF := open_wide
 refine Rt.of (fn := Tryd.f61) Tryd.func61 rfl rfl ?_
 refine T.seq ?_
 refine T.region ?_
 refine TL.assign hF rfl rfl ?_
 refine TL.nil ?_
 refine TQ.then_n ?_
 refine T.seq ?_
 refine T.region ?_
 refine TL.move hF rfl rfl ?_
 refine TL.len hF rfl rfl ?_
 refine TL.makeSlice hF rfl rfl rfl (by omega) (by omega) rfl (fun ob => ?_)
 rw [intC_zero]
 refine TL.build hF rfl (r := .agg #[.slice (some ⟨ob, 0, none⟩) m.length m.length, .slice none 0 0]) (fun w => by kernel_rfl) rfl ?_
 refine TL.alloc hF rfl (fun b5 => ?_)
 refine TL.storeAI hF [.slice (some ⟨ob, 0, none⟩) m.length m.length, .slice none 0 0] 0 rfl rfl rfl rfl (by simp [Value.oneCell']) (by simp [Value.cells]) ?_
 refine TL.nil ?_
 refine TQ.then_n ?_
 refine T.seq ?_
 refine T.seq ?_
 refine T.region ?_
 refine TL.assign hF rfl rfl ?_
 refine TL.nil ?_
 refine TQ.then_n ?_
 refine T.block ?_
 refine T.heap (η' := [(b5, Obj.cells #[.slice (some ⟨ob, 0, none⟩) m.length m.length, .slice none 0 0] 100 (0, 0))] :: (iseg ob m.length fun _ => 0) :: η) (by simp [Value.cells]) ?_
 refine T.pick [1, 0] [_, _] rfl rfl rfl ?_
 refine T.loop (ι := Nat) (fun k => k ≤ m.length) (fun k => [(0, .slice a l.length c), (1, .slice b m.length d), (4, .int .i64 0), (5, ptr b5), (6, .int .i64 (k : Int))]) (fun k => iseg ob m.length (fun j => if j < k then (-1 : Int) else 0) :: [(b5, Obj.cells #[.slice (some ⟨ob, 0, none⟩) m.length m.length, .slice none 0 0] 100 (0, 0))] :: η) (fun k => m.length - k) 0 (Nat.zero_le _) ⟨rfl, rfl, rfl, rfl, rfl, trivial⟩ (by simp [pickL]) ?_
 intro k hk
 refine T.seq ?_
 refine T.seq ?_
 refine T.region ?_
 refine TL.move hF rfl rfl ?_
 refine TL.move hF rfl rfl ?_
 refine TL.len hF rfl rfl ?_
 refine TL.bin hF rfl rfl rfl rfl ?_
 refine TL.nil ?_
 refine TQ.then_n ?_
 first | refine T.cond_d rfl (fun ht18 => ?_) (fun ht18 => ?_) | refine T.cond _ rfl (fun ht18 => ?_) (fun ht18 => ?_)
 ·refine T.skip ?_
  refine TQ.then_n ?_
  refine T.seq ?_
  refine T.block ?_
  refine T.region ?_
  refine TL.fieldAddr hF rfl rfl ?_
  refine TL.load hF rfl (own_mem (cs := #[.slice (some ⟨ob, 0, none⟩) m.length m.length, .slice none 0 0]) (e := 100) (fz := (0, 0)) (by simp) rfl) rfl ?_
  refine TL.move hF rfl rfl ?_
  refine TL.indexAddr hF rfl rfl ⟨_, rfl, rfl⟩ (by omega) (by omega) rfl ?_
  refine TL.storeI hF 0 rfl rfl rfl rfl (by simp [intC_len]; omega) ?_
  refine TL.nil ?_
  refine TQ.block_n ?_
  refine TQ.then_n ?_
  refine T.region ?_
  refine TL.move hF rfl rfl ?_
  refine TL.add hF rfl rfl (by omega) (by omega) rfl ?_
  refine TL.assign hF rfl rfl ?_
  refine TL.nil ?_
  exact TQ.round (k + 1) (by omega) (by omega) ⟨rfl, rfl, rfl, rfl, rfl, trivial⟩ (iseg_set (j := k) (by simp) (fun x hx2 => by
   by_cases e : x = k
   ·subst e; rw [if_pos (by omega), if_pos rfl]
   ·rw [if_neg e]
    by_cases h2 : x < k
    ·rw [if_pos h2, if_pos (by omega)]
    ·rw [if_neg h2, if_neg (by omega)]))
 ·refine T.exit ?_
  refine TQ.then_x ?_
  refine TQ.then_x ?_
  refine TQ.block_x ?_
  refine TQ.then_n ?_
  refine T.seq ?_
  refine T.region ?_
  refine TL.assign hF rfl rfl ?_
  refine TL.nil ?_
  refine TQ.then_n ?_
  refine T.seq ?_
  refine T.seq ?_
  refine T.region ?_
  refine TL.assign hF rfl rfl ?_
  refine TL.nil ?_
  refine TQ.then_n ?_
  refine T.block ?_
  have hkn : k = m.length := by have h : ¬ (k : Int) < (m.length : Int) := ht18; omega
  subst hkn
  refine T.heap (iseg_congr (n := m.length) (b := ob) (g := (runM (EPt l m) m.length 0).mate) (fun j hj => by rw [if_pos hj]; rfl)) ?_
  refine T.loop (ι := Nat × Value) (fun z => z.1 ≤ l.length ∧ z.2.oneCell' = true) (fun z => [(0, .slice a l.length c), (1, .slice b m.length d), (4, .int .i64 0), (5, ptr b5), (7, .int .i64 ((numM (EPt l m) m.length z.1 : Nat) : Int)), (8, .int .i64 (z.1 : Int))]) (fun z => iseg ob m.length (runM (EPt l m) m.length z.1).mate :: [(b5, Obj.cells #[.slice (some ⟨ob, 0, none⟩) m.length m.length, z.2] 100 (0, 0))] :: η) (fun z => l.length - z.1) (0, .slice none 0 0) ⟨Nat.zero_le _, rfl⟩ ⟨rfl, rfl, rfl, rfl, rfl, rfl, trivial⟩ rfl ?_
  rintro ⟨k, u⟩ ⟨hk, hu⟩
  dsimp only at hk hu
  refine T.seq ?_
  refine T.seq ?_
  refine T.region ?_
  refine TL.move hF rfl rfl ?_
  refine TL.move hF rfl rfl ?_
  refine TL.len hF rfl rfl ?_
  refine TL.bin hF rfl rfl rfl rfl ?_
  refine TL.nil ?_
  refine TQ.then_n ?_
  first | refine T.cond_d rfl (fun ht28 => ?_) (fun ht28 => ?_) | refine T.cond _ rfl (fun ht28 => ?_) (fun ht28 => ?_)
  ·refine T.skip ?_
   refine TQ.then_n ?_
   refine T.seq ?_
   refine T.block ?_
   refine T.seq ?_
   refine T.region ?_
   refine TL.move hF rfl rfl ?_
   refine TL.len hF rfl rfl ?_
   refine TL.makeSlice hF rfl rfl rfl (by omega) (by omega) rfl (fun b33 => ?_)
   rw [rowC_false]
   refine TL.fieldAddr hF rfl rfl ?_
   refine TL.storeI hF 2 rfl rfl rfl rfl (by simp) ?_
   refine TL.nil ?_
   refine TQ.then_n ?_
   refine T.seq ?_
   refine T.region ?_
   refine TL.move hF rfl rfl ?_
   refine TL.move hF rfl rfl ?_
   refine TL.move hF rfl rfl ?_
   refine TL.loadA hF [.slice (some ⟨ob, 0, none⟩) m.length m.length, .slice (some ⟨b33, 0, none⟩) m.length m.length] rfl rfl (own_listM (e := 100) (fz := (0, 0)) (cs := [.slice (some ⟨ob, 0, none⟩) m.length m.length, .slice (some ⟨b33, 0, none⟩) m.length m.length]) (by simp)) rfl ?_
   have hkl : k < l.length := by have h : (k : Int) < (l.length : Int) := ht28; omega
   refine TL.pick' [1, 0, 2] [_, _, _] rfl rfl rfl ?_
   refine TL.call hF (grown_ref (ob := ob) (tr := b33) hx hy (by omega) (by omega) hsl hsm (m.length + 1) (i := k) (s := stM (EPt l m) m.length k) (η := [(b5, Obj.cells #[.slice (some ⟨ob, 0, none⟩) m.length m.length, .slice (some ⟨b33, 0, none⟩) m.length m.length] 100 (0, 0))] :: η) hkl (runM_K (by omega)) (Nat.lt_succ_of_le (unt_le _ _))) rfl rfl ?_
   rintro _ _ ⟨rfl, rfl⟩
   have hns : numM (EPt l m) m.length (k + 1) = numM (EPt l m) m.length k + if okM (EPt l m) m.length k = true then 1 else 0 := cnt_succ
   have hnl : numM (EPt l m) m.length k ≤ k := cnt_le
   refine TL.move hF rfl rfl ?_
   refine TL.extract hF rfl rfl rfl ?_
   refine TL.extract hF rfl rfl rfl ?_
   refine TL.alloc hF rfl (fun b9 => ?_)
   refine TL.storeAI hF [.slice (some ⟨ob, 0, none⟩) m.length m.length, .slice (some ⟨b33, 0, none⟩) m.length m.length] 0 rfl rfl rfl rfl (by simp [Value.oneCell']) (by simp [Value.cells]) ?_
   refine TL.assign hF rfl rfl ?_
   refine TL.nil ?_
   refine TQ.then_n ?_
   refine T.seq ?_
   refine T.region ?_
   refine TL.loadA hF [.slice (some ⟨ob, 0, none⟩) m.length m.length, .slice (some ⟨b33, 0, none⟩) m.length m.length] rfl rfl (own_listM (e := 100) (fz := (0, 0)) (cs := [.slice (some ⟨ob, 0, none⟩) m.length m.length, .slice (some ⟨b33, 0, none⟩) m.length m.length]) (by simp [Value.cells])) rfl ?_
   refine TL.storeAI hF [.slice (some ⟨ob, 0, none⟩) m.length m.length, .slice (some ⟨b33, 0, none⟩) m.length m.length] 3 rfl rfl rfl rfl (by simp [Value.oneCell']) (by simp) ?_
   refine TL.nil ?_
   refine TQ.then_n ?_
   refine T.seq ?_
   refine T.region ?_
   refine TL.move hF rfl rfl ?_
   refine TL.nil ?_
   refine TQ.then_n ?_
   refine T.cond _ rfl (fun ht44 => ?_) (fun ht44 => ?_)
   ·refine T.region ?_
    refine TL.move hF rfl rfl ?_
    refine TL.add hF rfl rfl (by dsimp only; omega) (by dsimp only; omega) rfl ?_
    refine TL.assign hF rfl rfl ?_
    refine TL.nil ?_
    refine TQ.block_n ?_
    refine TQ.then_n ?_
    refine T.region ?_
    refine TL.move hF rfl rfl ?_
    refine TL.add hF rfl rfl (by omega) (by omega) rfl ?_
    refine TL.assign hF rfl rfl ?_
    refine TL.nil ?_
    refine TQ.pick [1, 3] [_, _, _, _] rfl rfl rfl ?_
    refine TQ.round (k + 1, .slice (some ⟨b33, 0, none⟩) m.length m.length) ⟨by dsimp only; omega, rfl⟩ (by dsimp only; omega) ⟨rfl, rfl, rfl, rfl, congrArg (fun z => some (Value.int .i64 z)) ?_, rfl, trivial⟩ rfl
    rw [if_pos (show okM (EPt l m) m.length k = true from ht44)] at hns
    dsimp only
    rw [hns]; omega
   ·refine T.skip ?_
    refine TQ.block_n ?_
    refine TQ.then_n ?_
    refine T.region ?_
    refine TL.move hF rfl rfl ?_
    refine TL.add hF rfl rfl (by omega) (by omega) rfl ?_
    refine TL.assign hF rfl rfl ?_
    refine TL.nil ?_
    refine TQ.pick [1, 3] [_, _, _, _] rfl rfl rfl ?_
    refine TQ.round (k + 1, .slice (some ⟨b33, 0, none⟩) m.length m.length) ⟨by dsimp only; omega, rfl⟩ (by dsimp only; omega) ⟨rfl, rfl, rfl, rfl, congrArg (fun z => some (Value.int .i64 z)) ?_, rfl, trivial⟩ rfl
    rw [if_neg (show ¬ okM (EPt l m) m.length k = true by rw [show okM (EPt l m) m.length k = false from ht44]; decide)] at hns
    dsimp only
    rw [hns]; omega
  ·refine T.exit ?_
   refine TQ.then_x ?_
   refine TQ.then_x ?_
   refine TQ.block_x ?_
   refine TQ.then_n ?_
   refine T.seq ?_
   refine T.region ?_
   refine TL.move hF rfl rfl ?_
   refine TL.assign hF rfl rfl ?_
   refine TL.nil ?_
   refine TQ.then_n ?_
   refine T.ret ?_
   refine TQ.pop ?_
   refine TQ.pop ?_
   refine TQ.rets [4] _ rfl rfl rfl ?_
   have hkn : k = l.length := by have h : ¬ (k : Int) < (l.length : Int) := ht28; omega
   rw [hkn]; exact ⟨rfl, rfl⟩
set_option maxHeartbeats 2000000 in
theorem few_ref {a : Option Addr} {l : List Int} {c : Nat} (hx : Row S w0 [] a (ints l)) (hl : l.length < 4294967296) (hsl : Sets l) :
  Rt Tryd.prog 35 [.slice a l.length c].toArray S w0 η (fun v η' => v = .int .i64 (fewN l) ∧ η' = η) := by
 have hF := open_wide
 refine Rt.of (fn := Tryd.f35) Tryd.func35 rfl rfl ?_
 refine T.seq ?_
 refine T.region ?_
 refine TL.assign hF rfl rfl ?_
 refine TL.nil ?_
 refine TQ.then_n ?_
 refine T.seq ?_
 refine T.region ?_
 refine TL.move hF rfl rfl ?_
 refine TL.len hF rfl rfl ?_
 refine TL.move hF rfl rfl ?_
 refine TL.move hF rfl rfl ?_
 refine TL.callV hF (Matched_ref hx hx hl hl hsl hsl) rfl rfl ?_
 have hle := matchN_le l l
 refine TL.sub hF rfl rfl (by omega) (by omega) rfl ?_
 refine TL.assign hF rfl rfl ?_
 refine TL.nil ?_
 refine TQ.then_n ?_
 refine T.ret ?_
 refine TQ.rets [2] _ rfl rfl rfl ?_
 exact ⟨rfl, rfl⟩
end Go.Proofs.YtfnalecnnmkgbaaDoor
/- Lists without some; searches in order; by the specification. -/
namespace Go.Proofs.YtfnalecnnmkgbaaDoor
open Go.Sl
variable {S : Nat → Prop} {w0 : World} {η : Heap}
theorem ints_app (l : List Int) (x : Int) : ints (l ++ [x]) = ints l ++ [.int .i64 x] := by simp [ints]
theorem filter_take {p : Int → Bool} {l : List Int} {k : Nat} (h : k < l.length) : (l.take (k + 1)).filter p = (l.take k).filter p ++ if p l[k] = true then [l[k]] else [] := by
 rw [List.take_succ_eq_append_getElem h, List.filter_append]
 congr 1
 simp only [List.filter_cons, List.filter_nil]
theorem filter_len {p : Int → Bool} {l : List Int} {k : Nat} : ((l.take k).filter p).length ≤ k := Nat.le_trans (List.length_filter_le _ _) (by rw [List.length_take]; omega)
def apartR (n x : Int) : Bool := (decide (x ≠ n) && !partI x n) && !partI n x
theorem apartR_eq (n x : Int) : apartR n x = apartI x n := by
 unfold apartR apartI partI
 by_cases e : x = n
 ·subst e; simp [underI]
 ·have e2 : n ≠ x := fun q => e q.symm
  rw [decide_eq_true e, decide_eq_true e2]; simp
set_option maxHeartbeats 2000000 in
theorem without_ref {a : Option Addr} {xs : List Int} {c : Nat} (n : Int) (hx : Row S w0 [] a (ints xs)) (hl : xs.length < 4294967296) :
  Rt Tryd.prog 64 [.slice a xs.length c, .int .i64 n].toArray S w0 η (fun v η' => ∃ oa oc og, v = .slice oa (xs.filter (fun x => decide (x ≠ n))).length oc ∧ OSl 3 1 (.slice oa (xs.filter (fun x => decide (x ≠ n))).length oc) (xs.filter (fun x => decide (x ≠ n))).length (ints (xs.filter (fun x => decide (x ≠ n)))) og ∧ η' = og :: η) := by
 have hF := open_wide
 refine Rt.of (fn := Tryd.f64) Tryd.func64 rfl rfl ?_
 refine T.seq ?_
 refine T.region ?_
 refine TL.assign hF rfl rfl ?_
 refine TL.nil ?_
 refine TQ.then_n ?_
 refine T.seq ?_
 refine T.region ?_
 refine TL.assign hF rfl rfl ?_
 refine TL.nil ?_
 refine TQ.then_n ?_
 refine T.seq ?_
 refine T.seq ?_
 refine T.region ?_
 refine TL.assign hF rfl rfl ?_
 refine TL.nil ?_
 refine TQ.then_n ?_
 refine T.block ?_
 refine T.hnil ?_
 refine T.loop (ι := Nat × Option Addr × Nat × Seg) (fun z => match z with | (k, oa, oc, og) => k ≤ xs.length ∧ OSl 3 1 (.slice oa ((xs.take k).filter (fun x => decide (x ≠ n))).length oc) ((xs.take k).filter (fun x => decide (x ≠ n))).length (ints ((xs.take k).filter (fun x => decide (x ≠ n)))) og) (fun z => match z with | (k, oa, oc, og) => [(0, .slice a xs.length c), (1, .int .i64 n), (4, .slice none 0 0), (5, .slice oa ((xs.take k).filter (fun x => decide (x ≠ n))).length oc), (6, .int .i64 (k : Int))]) (fun z => match z with | (k, oa, oc, og) => og :: η) (fun z => xs.length - z.1) (0, none, 0, []) ⟨Nat.zero_le _, OSl.nil _ _⟩ ⟨rfl, rfl, rfl, rfl, rfl, trivial⟩ rfl ?_
 rintro ⟨k, oa, oc, og⟩ ⟨hk, ho⟩
 refine T.seq ?_
 refine T.seq ?_
 refine T.region ?_
 refine TL.move hF rfl rfl ?_
 refine TL.move hF rfl rfl ?_
 refine TL.len hF rfl rfl ?_
 refine TL.bin hF rfl rfl rfl rfl ?_
 refine TL.nil ?_
 refine TQ.then_n ?_
 first | refine T.cond_d rfl (fun ht10 => ?_) (fun ht10 => ?_) | refine T.cond _ rfl (fun ht10 => ?_) (fun ht10 => ?_)
 ·refine T.skip ?_
  refine TQ.then_n ?_
  refine T.seq ?_
  refine T.block ?_
  refine T.seq ?_
  refine T.region ?_
  refine TL.move hF rfl rfl ?_
  refine TL.move hF rfl rfl ?_
  have hkl : k < xs.length := by have h : (k : Int) < (xs.length : Int) := ht10; omega
  have hfl := filter_len (p := (fun x => decide (x ≠ n))) (l := xs) (k := k)
  refine TL.indexAddr hF rfl rfl (hx.adi (i := k) (by simp; omega)) (by omega) (by omega) rfl ?_
  refine TL.load hF rfl (hx.ro.int (i := k) hkl) rfl ?_
  refine TL.move hF rfl rfl ?_
  refine TL.bin hF rfl rfl rfl rfl ?_
  refine TL.nil ?_
  refine TQ.then_n ?_
  first | refine T.cond_d rfl (fun ht18 => ?_) (fun ht18 => ?_) | refine T.cond _ rfl (fun ht18 => ?_) (fun ht18 => ?_)
  ·refine T.region ?_
   refine TL.move hF rfl rfl ?_
   refine TL.move hF rfl rfl ?_
   refine TL.move hF rfl rfl ?_
   refine TL.indexAddr hF rfl rfl (hx.adi (i := k) (by simp; omega)) (by omega) (by omega) rfl ?_
   refine TL.load hF rfl (hx.ro.int (i := k) hkl) rfl ?_
   refine TL.buildSlice hF rfl (cs := #[.int .i64 xs[k]]) (e := 3) (fun w => by kernel_rfl) rfl (fun b24 => ?_)
   refine TL.append hF 1 rfl rfl rfl ho (row_own (cs := [.int .i64 xs[k]]) (e := 3) (by simp)).src rfl rfl (by simp [Value.oneCell']) (by omega) (by omega) rfl (fun pa pc pg ph => ?_)
   rw [← ints_app] at ph
   refine TL.assign hF rfl rfl ?_
   refine TL.nil ?_
   refine TQ.block_n ?_
   refine TQ.then_n ?_
   refine T.region ?_
   refine TL.move hF rfl rfl ?_
   refine TL.add hF rfl rfl (by omega) (by omega) rfl ?_
   refine TL.assign hF rfl rfl ?_
   refine TL.nil ?_
   have e1 : ((xs.take (k + 1)).filter (fun x => decide (x ≠ n))) = ((xs.take k).filter (fun x => decide (x ≠ n))) ++ [xs[k]] := by rw [filter_take hkl, if_pos (decide_eq_true ht18)]
   refine TQ.pop ?_
   refine TQ.round (k + 1, pa, pc, pg) ⟨by omega, by rw [e1, List.length_append]; exact ph⟩ (by dsimp only; omega) ⟨rfl, rfl, rfl, congrArg (fun n : Nat => some (Value.slice pa n pc)) (by rw [e1, List.length_append]; rfl), rfl, trivial⟩ rfl
  ·refine T.skip ?_
   refine TQ.block_n ?_
   refine TQ.then_n ?_
   refine T.region ?_
   refine TL.move hF rfl rfl ?_
   refine TL.add hF rfl rfl (by omega) (by omega) rfl ?_
   refine TL.assign hF rfl rfl ?_
   refine TL.nil ?_
   have e1 : ((xs.take (k + 1)).filter (fun x => decide (x ≠ n))) = ((xs.take k).filter (fun x => decide (x ≠ n))) := by rw [filter_take hkl, if_neg (by simpa using ht18), List.append_nil]
   refine TQ.round (k + 1, oa, oc, og) ⟨by omega, by rw [e1]; exact ho⟩ (by dsimp only; omega) ⟨rfl, rfl, rfl, congrArg (fun l : List Int => some (Value.slice oa l.length oc)) e1.symm, rfl, trivial⟩ rfl
 ·refine T.exit ?_
  refine TQ.then_x ?_
  refine TQ.then_x ?_
  refine TQ.block_x ?_
  refine TQ.then_n ?_
  refine T.seq ?_
  refine T.region ?_
  refine TL.move hF rfl rfl ?_
  refine TL.assign hF rfl rfl ?_
  refine TL.nil ?_
  refine TQ.then_n ?_
  refine T.ret ?_
  refine TQ.rets [4] _ rfl rfl rfl ?_
  have hkn : k = xs.length := by have h : ¬ (k : Int) < (xs.length : Int) := ht10; omega
  have e : ((xs.take k).filter (fun x => decide (x ≠ n))) = xs.filter (fun x => decide (x ≠ n)) := by rw [List.take_of_length_le (by omega)]
  rw [e] at ho
  exact ⟨oa, oc, og, by rw [e]; rfl, ho, rfl⟩
set_option maxHeartbeats 2000000 in
theorem apart_ref {a : Option Addr} {xs : List Int} {c : Nat} (n : Int) (hx : Row S w0 [] a (ints xs)) (hl : xs.length < 4294967296) (hs : Sets xs) (hn : 0 ≤ n ∧ n < 1024) :
  Rt Tryd.prog 52 [.slice a xs.length c, .int .i64 n].toArray S w0 η (fun v η' => ∃ oa oc og, v = .slice oa (xs.filter (apartR n)).length oc ∧ OSl 3 1 (.slice oa (xs.filter (apartR n)).length oc) (xs.filter (apartR n)).length (ints (xs.filter (apartR n))) og ∧ η' = og :: η) := by
 have hF := open_wide
 refine Rt.of (fn := Tryd.f52) Tryd.func52 rfl rfl ?_
 refine T.seq ?_
 refine T.region ?_
 refine TL.assign hF rfl rfl ?_
 refine TL.nil ?_
 refine TQ.then_n ?_
 refine T.seq ?_
 refine T.region ?_
 refine TL.assign hF rfl rfl ?_
 refine TL.nil ?_
 refine TQ.then_n ?_
 refine T.seq ?_
 refine T.seq ?_
 refine T.region ?_
 refine TL.assign hF rfl rfl ?_
 refine TL.nil ?_
 refine TQ.then_n ?_
 refine T.block ?_
 refine T.hnil ?_
 refine T.loop (ι := Nat × Option Addr × Nat × Seg) (fun z => match z with | (k, oa, oc, og) => k ≤ xs.length ∧ OSl 3 1 (.slice oa ((xs.take k).filter (apartR n)).length oc) ((xs.take k).filter (apartR n)).length (ints ((xs.take k).filter (apartR n))) og) (fun z => match z with | (k, oa, oc, og) => [(0, .slice a xs.length c), (1, .int .i64 n), (4, .slice none 0 0), (5, .slice oa ((xs.take k).filter (apartR n)).length oc), (6, .int .i64 (k : Int))]) (fun z => match z with | (k, oa, oc, og) => og :: η) (fun z => xs.length - z.1) (0, none, 0, []) ⟨Nat.zero_le _, OSl.nil _ _⟩ ⟨rfl, rfl, rfl, rfl, rfl, trivial⟩ rfl ?_
 rintro ⟨k, oa, oc, og⟩ ⟨hk, ho⟩
 refine T.seq ?_
 refine T.seq ?_
 refine T.region ?_
 refine TL.move hF rfl rfl ?_
 refine TL.move hF rfl rfl ?_
 refine TL.len hF rfl rfl ?_
 refine TL.bin hF rfl rfl rfl rfl ?_
 refine TL.nil ?_
 refine TQ.then_n ?_
 first | refine T.cond_d rfl (fun ht10 => ?_) (fun ht10 => ?_) | refine T.cond _ rfl (fun ht10 => ?_) (fun ht10 => ?_)
 ·refine T.skip ?_
  refine TQ.then_n ?_
  refine T.seq ?_
  refine T.block ?_
  refine T.seq ?_
  refine T.region ?_
  refine TL.move hF rfl rfl ?_
  refine TL.move hF rfl rfl ?_
  have hkl : k < xs.length := by have h : (k : Int) < (xs.length : Int) := ht10; omega
  have hfl := filter_len (p := (apartR n)) (l := xs) (k := k)
  refine TL.indexAddr hF rfl rfl (hx.adi (i := k) (by simp; omega)) (by omega) (by omega) rfl ?_
  refine TL.load hF rfl (hx.ro.int (i := k) hkl) rfl ?_
  refine TL.move hF rfl rfl ?_
  refine TL.bin hF rfl rfl rfl rfl ?_
  refine TL.move hF rfl rfl ?_
  refine TL.gb (t := 19) rfl (fun g5_19 => ?_) (fun g5_19 => ?_)
  ·refine TL.on rfl rfl rfl g5_19 ?_
   refine TL.move hF rfl rfl ?_
   refine TL.on rfl rfl rfl g5_19 ?_
   refine TL.move hF rfl rfl ?_
   refine TL.on rfl rfl rfl g5_19 ?_
   refine TL.indexAddr hF rfl rfl (hx.adi (i := k) (by simp; omega)) (by omega) (by omega) rfl ?_
   refine TL.on rfl rfl rfl g5_19 ?_
   refine TL.load hF rfl (hx.ro.int (i := k) hkl) rfl ?_
   refine TL.on rfl rfl rfl g5_19 ?_
   refine TL.move hF rfl rfl ?_
   refine TL.on rfl rfl rfl g5_19 ?_
   refine TL.callV hF (Part_fn (hs _ (List.getElem_mem hkl)) hn) rfl rfl ?_
   refine TL.on rfl rfl rfl g5_19 ?_
   refine TL.not hF rfl rfl ?_
   refine TL.pickT hF rfl g5_19 rfl rfl ?_
   refine TL.move hF rfl rfl ?_
   refine TL.gb (t := 28) rfl (fun g5_28 => ?_) (fun g5_28 => ?_)
   ·refine TL.on rfl rfl rfl g5_28 ?_
    refine TL.move hF rfl rfl ?_
    refine TL.on rfl rfl rfl g5_28 ?_
    refine TL.move hF rfl rfl ?_
    refine TL.on rfl rfl rfl g5_28 ?_
    refine TL.move hF rfl rfl ?_
    refine TL.on rfl rfl rfl g5_28 ?_
    refine TL.indexAddr hF rfl rfl (hx.adi (i := k) (by simp; omega)) (by omega) (by omega) rfl ?_
    refine TL.on rfl rfl rfl g5_28 ?_
    refine TL.load hF rfl (hx.ro.int (i := k) hkl) rfl ?_
    refine TL.on rfl rfl rfl g5_28 ?_
    refine TL.callV hF (Part_fn hn (hs _ (List.getElem_mem hkl))) rfl rfl ?_
    refine TL.on rfl rfl rfl g5_28 ?_
    refine TL.not hF rfl rfl ?_
    refine TL.pickT hF rfl g5_28 rfl rfl ?_
    refine TL.nil ?_
    refine TQ.then_n ?_
    refine T.cond _ rfl (fun ht36 => ?_) (fun ht36 => ?_)
    ·refine T.region ?_
     refine TL.move hF rfl rfl ?_
     refine TL.move hF rfl rfl ?_
     refine TL.move hF rfl rfl ?_
     refine TL.indexAddr hF rfl rfl (hx.adi (i := k) (by simp; omega)) (by omega) (by omega) rfl ?_
     refine TL.load hF rfl (hx.ro.int (i := k) hkl) rfl ?_
     refine TL.buildSlice hF rfl (cs := #[.int .i64 xs[k]]) (e := 3) (fun w => by kernel_rfl) rfl (fun b24 => ?_)
     refine TL.append hF 1 rfl rfl rfl ho (row_own (cs := [.int .i64 xs[k]]) (e := 3) (by simp)).src rfl rfl (by simp [Value.oneCell']) (by omega) (by omega) rfl (fun pa pc pg ph => ?_)
     rw [← ints_app] at ph
     refine TL.assign hF rfl rfl ?_
     refine TL.nil ?_
     refine TQ.block_n ?_
     refine TQ.then_n ?_
     refine T.region ?_
     refine TL.move hF rfl rfl ?_
     refine TL.add hF rfl rfl (by omega) (by omega) rfl ?_
     refine TL.assign hF rfl rfl ?_
     refine TL.nil ?_
     have e1 : ((xs.take (k + 1)).filter (apartR n)) = ((xs.take k).filter (apartR n)) ++ [xs[k]] := by rw [filter_take hkl, if_pos (by unfold apartR; rw [show decide (xs[k] ≠ n) = true from g5_19, show (!partI xs[k] n) = true from g5_28, show (!partI n xs[k]) = true from ht36]; rfl)]
     refine TQ.pop ?_
     refine TQ.round (k + 1, pa, pc, pg) ⟨by omega, by rw [e1, List.length_append]; exact ph⟩ (by dsimp only; omega) ⟨rfl, rfl, rfl, congrArg (fun n : Nat => some (Value.slice pa n pc)) (by rw [e1, List.length_append]; rfl), rfl, trivial⟩ rfl
    ·refine T.skip ?_
     refine TQ.block_n ?_
     refine TQ.then_n ?_
     refine T.region ?_
     refine TL.move hF rfl rfl ?_
     refine TL.add hF rfl rfl (by omega) (by omega) rfl ?_
     refine TL.assign hF rfl rfl ?_
     refine TL.nil ?_
     have e1 : ((xs.take (k + 1)).filter (apartR n)) = ((xs.take k).filter (apartR n)) := by rw [filter_take hkl, if_neg (fun h => by unfold apartR at h; rw [Bool.and_eq_true] at h; rw [h.2] at ht36; cases ht36), List.append_nil]
     refine TQ.round (k + 1, oa, oc, og) ⟨by omega, by rw [e1]; exact ho⟩ (by dsimp only; omega) ⟨rfl, rfl, rfl, congrArg (fun l : List Int => some (Value.slice oa l.length oc)) e1.symm, rfl, trivial⟩ rfl
   ·refine TL.off hF rfl rfl rfl g5_28 rfl ?_
    refine TL.off hF rfl rfl rfl g5_28 rfl ?_
    refine TL.off hF rfl rfl rfl g5_28 rfl ?_
    refine TL.off hF rfl rfl rfl g5_28 rfl ?_
    refine TL.off hF rfl rfl rfl g5_28 rfl ?_
    refine TL.off hF rfl rfl rfl g5_28 rfl ?_
    refine TL.off hF rfl rfl rfl g5_28 rfl ?_
    refine TL.pickF hF rfl g5_28 rfl rfl ?_
    refine TL.nil ?_
    refine TQ.then_n ?_
    refine T.cond_f rfl rfl ?_
    refine T.skip ?_
    refine TQ.block_n ?_
    refine TQ.then_n ?_
    refine T.region ?_
    refine TL.move hF rfl rfl ?_
    refine TL.add hF rfl rfl (by omega) (by omega) rfl ?_
    refine TL.assign hF rfl rfl ?_
    refine TL.nil ?_
    have e1 : ((xs.take (k + 1)).filter (apartR n)) = ((xs.take k).filter (apartR n)) := by rw [filter_take hkl, if_neg (fun h => by unfold apartR at h; rw [Bool.and_eq_true, Bool.and_eq_true] at h; rw [h.1.2] at g5_28; cases g5_28), List.append_nil]
    refine TQ.round (k + 1, oa, oc, og) ⟨by omega, by rw [e1]; exact ho⟩ (by dsimp only; omega) ⟨rfl, rfl, rfl, congrArg (fun l : List Int => some (Value.slice oa l.length oc)) e1.symm, rfl, trivial⟩ rfl
  ·refine TL.off hF rfl rfl rfl g5_19 rfl ?_
   refine TL.off hF rfl rfl rfl g5_19 rfl ?_
   refine TL.off hF rfl rfl rfl g5_19 rfl ?_
   refine TL.off hF rfl rfl rfl g5_19 rfl ?_
   refine TL.off hF rfl rfl rfl g5_19 rfl ?_
   refine TL.off hF rfl rfl rfl g5_19 rfl ?_
   refine TL.off hF rfl rfl rfl g5_19 rfl ?_
   refine TL.pickF hF rfl g5_19 rfl rfl ?_
   refine TL.move hF rfl rfl ?_
   refine TL.off hF rfl rfl rfl rfl rfl ?_
   refine TL.off hF rfl rfl rfl rfl rfl ?_
   refine TL.off hF rfl rfl rfl rfl rfl ?_
   refine TL.off hF rfl rfl rfl rfl rfl ?_
   refine TL.off hF rfl rfl rfl rfl rfl ?_
   refine TL.off hF rfl rfl rfl rfl rfl ?_
   refine TL.off hF rfl rfl rfl rfl rfl ?_
   refine TL.pickF hF rfl rfl rfl rfl ?_
   refine TL.nil ?_
   refine TQ.then_n ?_
   refine T.cond_f rfl rfl ?_
   refine T.skip ?_
   refine TQ.block_n ?_
   refine TQ.then_n ?_
   refine T.region ?_
   refine TL.move hF rfl rfl ?_
   refine TL.add hF rfl rfl (by omega) (by omega) rfl ?_
   refine TL.assign hF rfl rfl ?_
   refine TL.nil ?_
   have e1 : ((xs.take (k + 1)).filter (apartR n)) = ((xs.take k).filter (apartR n)) := by rw [filter_take hkl, if_neg (fun h => by unfold apartR at h; rw [Bool.and_eq_true, Bool.and_eq_true] at h; rw [h.1.1] at g5_19; cases g5_19), List.append_nil]
   refine TQ.round (k + 1, oa, oc, og) ⟨by omega, by rw [e1]; exact ho⟩ (by dsimp only; omega) ⟨rfl, rfl, rfl, congrArg (fun l : List Int => some (Value.slice oa l.length oc)) e1.symm, rfl, trivial⟩ rfl
 ·refine T.exit ?_
  refine TQ.then_x ?_
  refine TQ.then_x ?_
  refine TQ.block_x ?_
  refine TQ.then_n ?_
  refine T.seq ?_
  refine T.region ?_
  refine TL.move hF rfl rfl ?_
  refine TL.assign hF rfl rfl ?_
  refine TL.nil ?_
  refine TQ.then_n ?_
  refine T.ret ?_
  refine TQ.rets [4] _ rfl rfl rfl ?_
  have hkn : k = xs.length := by have h : ¬ (k : Int) < (xs.length : Int) := ht10; omega
  have e : ((xs.take k).filter (apartR n)) = xs.filter (apartR n) := by rw [List.take_of_length_le (by omega)]
  rw [e] at ho
  exact ⟨oa, oc, og, by rw [e]; rfl, ho, rfl⟩
end Go.Proofs.YtfnalecnnmkgbaaDoor
/- Searches in order, by the specification. -/
namespace Go.Proofs.YtfnalecnnmkgbaaDoor
open Go.Sl
variable {S : Nat → Prop} {w0 : World} {η : Heap}
/-- A number in its place. -/
def insR (x : Int) (l : List Int) : List Int := l.takeWhile (fun y => decide (y < x)) ++ x :: l.dropWhile (fun y => decide (y < x))
def risingS (l : List Int) : List Int := l.foldl (fun o x => insR x o) []
theorem insR_len (x : Int) (l : List Int) : (insR x l).length = l.length + 1 := by
 unfold insR
 have h := congrArg List.length (List.takeWhile_append_dropWhile (p := fun y => decide (y < x)) (l := l))
 rw [List.length_append] at h
 rw [List.length_append, List.length_cons]; omega
theorem foldR_len : ∀ (l o : List Int), (l.foldl (fun o x => insR x o) o).length = o.length + l.length
 | [], o => rfl
 | x :: l, o => by rw [List.foldl_cons, foldR_len l, insR_len, List.length_cons]; omega
theorem rising_take {l : List Int} {k : Nat} (h : k < l.length) : risingS (l.take (k + 1)) = insR l[k] (risingS (l.take k)) := by
 unfold risingS
 rw [List.take_succ_eq_append_getElem h, List.foldl_append]; rfl
theorem risingS_len (l : List Int) : (risingS l).length = l.length := by unfold risingS; rw [foldR_len]; simp
theorem tw_split {p : Int → Bool} {l : List Int} {k : Nat} (hk : k ≤ l.length) (h1 : ∀ y ∈ l.take k, p y = true) (h2 : (h : k < l.length) → p l[k] = false) : l.takeWhile p = l.take k ∧ l.dropWhile p = l.drop k := by
 induction l generalizing k with
 | nil => simp
 | cons x l ih =>
  cases k with
  | zero =>
   have h := h2 (by simp)
   simp only [List.getElem_cons_zero] at h
   simp [h]
  | succ k =>
   have hx := h1 x (by simp)
   have := ih (k := k) (by simpa using hk) (fun y hy => h1 y (by simp [hy])) (fun h => by have := h2 (by simpa using h); simpa using this)
   simp [hx, this.1, this.2]
set_option maxHeartbeats 2000000 in
theorem rising_ref {a : Option Addr} {xs : List Int} {c : Nat} (hx : Row S w0 [] a (ints xs)) (hl : xs.length < 4294967296) :
  Rt Tryd.prog 38 [.slice a xs.length c].toArray S w0 η (fun v η' => ∃ oa oc og, v = .slice oa xs.length oc ∧ OSl 3 1 (.slice oa xs.length oc) xs.length (ints (risingS xs)) og ∧ η' = og :: η) := by
 have hF := open_wide
 refine Rt.of (fn := Tryd.f38) Tryd.func38 rfl rfl ?_
 refine T.seq ?_
 refine T.region ?_
 refine TL.assign hF rfl rfl ?_
 refine TL.nil ?_
 refine TQ.then_n ?_
 refine T.seq ?_
 refine T.region ?_
 refine TL.assign hF rfl rfl ?_
 refine TL.nil ?_
 refine TQ.then_n ?_
 refine T.seq ?_
 refine T.seq ?_
 refine T.region ?_
 refine TL.assign hF rfl rfl ?_
 refine TL.nil ?_
 refine TQ.then_n ?_
 refine T.block ?_
 refine T.hnil ?_
 refine T.loop (ι := Nat × Option Addr × Nat × Seg) (fun z => match z with | (i, oa, oc, og) => i ≤ xs.length ∧ OSl 3 1 (.slice oa i oc) i (ints (risingS (xs.take i))) og) (fun z => match z with | (i, oa, oc, og) => [(0, .slice a xs.length c), (2, .slice none 0 0), (3, .slice oa i oc), (4, .int .i64 (i : Int))]) (fun z => match z with | (i, oa, oc, og) => og :: η) (fun z => xs.length - z.1) (0, none, 0, []) ⟨Nat.zero_le _, OSl.nil _ _⟩ ⟨rfl, rfl, rfl, rfl, trivial⟩ rfl ?_
 rintro ⟨i, oa, oc, og⟩ ⟨hi, ho⟩
 refine T.seq ?_
 refine T.seq ?_
 refine T.region ?_
 refine TL.move hF rfl rfl ?_
 refine TL.move hF rfl rfl ?_
 refine TL.len hF rfl rfl ?_
 refine TL.bin hF rfl rfl rfl rfl ?_
 refine TL.nil ?_
 refine TQ.then_n ?_
 first | refine T.cond_d rfl (fun ht12 => ?_) (fun ht12 => ?_) | refine T.cond _ rfl (fun ht12 => ?_) (fun ht12 => ?_)
 ·refine T.skip ?_
  refine TQ.then_n ?_
  refine T.seq ?_
  refine T.block ?_
  refine T.seq ?_
  refine T.region ?_
  have hix : i < xs.length := by have h : (i : Int) < (xs.length : Int) := ht12; omega
  have hrs := rising_take hix
  have hol : (risingS (xs.take i)).length = i := by rw [risingS_len, List.length_take]; omega
  have hor : Row S w0 (og :: η) oa (ints (risingS (xs.take i))) := ho.row List.mem_cons_self
  generalize (risingS (xs.take i)) = out at ho hrs hol hor
  refine TL.assign hF rfl rfl ?_
  refine TL.nil ?_
  refine TQ.then_n ?_
  refine T.cut (ι := Nat) (fun j => j ≤ i ∧ (∀ y ∈ out.take j, decide (y < xs[i]) = true) ∧ ((h : j < out.length) → decide (out[j] < xs[i]) = false)) (fun j => [(0, .slice a xs.length c), (2, .slice none 0 0), (3, .slice oa i oc), (4, .int .i64 (i : Int)), (5, .int .i64 (j : Int))]) (fun _ => og :: η) ?_ ?_
  ·refine T.block ?_
   refine T.loop (ι := Nat) (fun j => j ≤ i ∧ ∀ y ∈ out.take j, decide (y < xs[i]) = true) (fun j => [(0, .slice a xs.length c), (2, .slice none 0 0), (3, .slice oa i oc), (4, .int .i64 (i : Int)), (5, .int .i64 (j : Int))]) (fun _ => og :: η) (fun j => i - j) 0 ⟨Nat.zero_le _, by simp⟩ ⟨rfl, rfl, rfl, rfl, rfl, trivial⟩ rfl ?_
   rintro j ⟨hj, hlt⟩
   refine T.seq ?_
   refine T.seq ?_
   by_cases hji : j < i
   ·refine T.draw ?_
    refine DR.stepV [_] rfl [(5, _, none)] rfl rfl ⟨⟨rfl, by kernel_rfl⟩, trivial⟩ (fun ext => TL.move hF rfl rfl TL.fin) ?_
    refine DR.stepV [_, _] rfl [(3, _, none)] rfl rfl ⟨⟨rfl, by kernel_rfl⟩, trivial⟩ (fun ext => TL.move hF rfl rfl TL.fin) ?_
    refine DR.stepV [_, _, _] rfl [(16, _, some 1)] rfl rfl ⟨⟨rfl, rfl, rfl⟩, trivial⟩ (fun ext => TL.len hF rfl rfl TL.fin) ?_
    refine DR.stepV [_, _, _, _] rfl [(15, _, some 0), (17, _, some 2)] rfl rfl ⟨⟨rfl, rfl, rfl⟩, ⟨rfl, rfl, rfl⟩, trivial⟩ (fun ext => TL.bin hF rfl rfl rfl rfl TL.fin) ?_
    refine DR.stepV [_, _, _, _, _] rfl [(18, _, some 3)] rfl rfl ⟨⟨rfl, rfl, rfl⟩, trivial⟩ (fun ext => TL.move hF rfl rfl TL.fin) ?_
    refine DR.stepV [_, _, _, _, _, _] rfl [(3, _, none), (19, _, some 4)] rfl rfl ⟨⟨rfl, by kernel_rfl⟩, ⟨rfl, rfl, rfl⟩, trivial⟩ (fun ext => TL.on rfl rfl rfl (decide_eq_true (by omega)) <| TL.move hF rfl rfl TL.fin) ?_
    refine DR.stepV [_, _, _, _, _, _, _] rfl [(5, _, none), (19, _, some 4)] rfl rfl ⟨⟨rfl, by kernel_rfl⟩, ⟨rfl, rfl, rfl⟩, trivial⟩ (fun ext => TL.on rfl rfl rfl (decide_eq_true (by omega)) <| TL.move hF rfl rfl TL.fin) ?_
    refine DR.stepV [_, _, _, _, _, _, _, _] rfl [(20, _, some 5), (21, _, some 6), (19, _, some 4)] rfl rfl ⟨⟨rfl, rfl, rfl⟩, ⟨rfl, rfl, rfl⟩, ⟨rfl, rfl, rfl⟩, trivial⟩ (fun ext => TL.on rfl rfl rfl (decide_eq_true (by omega)) <| TL.indexAddr hF rfl rfl (hor.adi (i := j) (by simp; omega)) (by omega) (by omega) rfl TL.fin) ?_
    refine DR.stepV [_, _, _, _, _, _, _, _, _] rfl [(22, _, some 7), (19, _, some 4)] rfl rfl ⟨⟨rfl, rfl, rfl⟩, ⟨rfl, rfl, rfl⟩, trivial⟩ (fun ext => TL.on rfl rfl rfl (decide_eq_true (by omega)) <| TL.load hF rfl (hor.int (i := j) (by omega)) rfl TL.fin) ?_
    refine DR.stepV [_, _, _, _, _, _, _, _, _, _] rfl [(0, _, none), (19, _, some 4)] rfl rfl ⟨⟨rfl, by kernel_rfl⟩, ⟨rfl, rfl, rfl⟩, trivial⟩ (fun ext => TL.on rfl rfl rfl (decide_eq_true (by omega)) <| TL.move hF rfl rfl TL.fin) ?_
    refine DR.stepV [_, _, _, _, _, _, _, _, _, _, _] rfl [(4, _, none), (19, _, some 4)] rfl rfl ⟨⟨rfl, by kernel_rfl⟩, ⟨rfl, rfl, rfl⟩, trivial⟩ (fun ext => TL.on rfl rfl rfl (decide_eq_true (by omega)) <| TL.move hF rfl rfl TL.fin) ?_
    refine DR.stepV [_, _, _, _, _, _, _, _, _, _, _, _] rfl [(24, _, some 9), (25, _, some 10), (19, _, some 4)] rfl rfl ⟨⟨rfl, rfl, rfl⟩, ⟨rfl, rfl, rfl⟩, ⟨rfl, rfl, rfl⟩, trivial⟩ (fun ext => TL.on rfl rfl rfl (decide_eq_true (by omega)) <| TL.indexAddr hF rfl rfl ((hx.ro (η' := og :: η)).adi (i := i) (by simp; omega)) (by omega) (by omega) rfl TL.fin) ?_
    refine DR.stepV [_, _, _, _, _, _, _, _, _, _, _, _, _] rfl [(26, _, some 11), (19, _, some 4)] rfl rfl ⟨⟨rfl, rfl, rfl⟩, ⟨rfl, rfl, rfl⟩, trivial⟩ (fun ext => TL.on rfl rfl rfl (decide_eq_true (by omega)) <| TL.load hF rfl (hx.ro.int (i := i) hix) rfl TL.fin) ?_
    refine DR.done [(27, _), (26, _), (25, _), (24, _), (23, _), (22, _), (21, _), (20, _), (19, _), (18, _), (17, _), (16, _), (15, _)] [_, _] mixed (by kernel_rfl) (by kernel_rfl) (by kernel_rfl) rfl rfl ?_
    refine TL.on rfl rfl rfl (decide_eq_true (by omega)) ?_
    refine TL.bin hF rfl rfl rfl rfl ?_
    refine TL.pickT hF rfl (decide_eq_true (by omega)) rfl rfl ?_
    refine TL.nil ?_
    refine TQ.then_n ?_
    refine T.cond_d rfl (fun ht29 => ?_) (fun ht29 => ?_)
    ·refine T.skip ?_
     refine TQ.then_n ?_
     refine T.block ?_
     refine T.region ?_
     refine TL.move hF rfl rfl ?_
     refine TL.add hF rfl rfl (by omega) (by omega) rfl ?_
     refine TL.assign hF rfl rfl ?_
     refine TL.nil ?_
     refine TQ.block_n ?_
     refine TQ.round (j + 1) ⟨by omega, fun y hy => ?_⟩ (by omega) ⟨rfl, rfl, rfl, rfl, rfl, trivial⟩ rfl
     rw [List.take_succ_eq_append_getElem (by omega)] at hy
     rcases List.mem_append.1 hy with h | h
     ·exact hlt y h
     ·rw [List.mem_singleton.1 h]; exact decide_eq_true ht29
    ·refine T.exit ?_
     refine TQ.then_x ?_
     refine TQ.then_x ?_
     refine TQ.block_x ?_
     exact TQ.cut j ⟨hj, hlt, fun _ => decide_eq_false ht29⟩ ⟨rfl, rfl, rfl, rfl, rfl, trivial⟩ rfl
   ·refine T.draw ?_
    refine DR.stepV [_] rfl [(5, _, none)] rfl rfl ⟨⟨rfl, by kernel_rfl⟩, trivial⟩ (fun ext => TL.move hF rfl rfl TL.fin) ?_
    refine DR.stepV [_, _] rfl [(3, _, none)] rfl rfl ⟨⟨rfl, by kernel_rfl⟩, trivial⟩ (fun ext => TL.move hF rfl rfl TL.fin) ?_
    refine DR.stepV [_, _, _] rfl [(16, _, some 1)] rfl rfl ⟨⟨rfl, rfl, rfl⟩, trivial⟩ (fun ext => TL.len hF rfl rfl TL.fin) ?_
    refine DR.stepV [_, _, _, _] rfl [(15, _, some 0), (17, _, some 2)] rfl rfl ⟨⟨rfl, rfl, rfl⟩, ⟨rfl, rfl, rfl⟩, trivial⟩ (fun ext => TL.bin hF rfl rfl rfl rfl TL.fin) ?_
    refine DR.stepV [_, _, _, _, _] rfl [(18, _, some 3)] rfl rfl ⟨⟨rfl, rfl, rfl⟩, trivial⟩ (fun ext => TL.move hF rfl rfl TL.fin) ?_
    refine DR.stepV [_, _, _, _, _, _] rfl [(3, _, none), (19, _, some 4)] rfl rfl ⟨⟨rfl, by kernel_rfl⟩, ⟨rfl, rfl, rfl⟩, trivial⟩ (fun ext => TL.off hF rfl rfl rfl (decide_eq_false (by omega)) rfl TL.fin) ?_
    refine DR.stepV [_, _, _, _, _, _, _] rfl [(5, _, none), (19, _, some 4)] rfl rfl ⟨⟨rfl, by kernel_rfl⟩, ⟨rfl, rfl, rfl⟩, trivial⟩ (fun ext => TL.off hF rfl rfl rfl (decide_eq_false (by omega)) rfl TL.fin) ?_
    refine DR.stepV [_, _, _, _, _, _, _, _] rfl [(20, _, some 5), (21, _, some 6), (19, _, some 4)] rfl rfl ⟨⟨rfl, rfl, rfl⟩, ⟨rfl, rfl, rfl⟩, ⟨rfl, rfl, rfl⟩, trivial⟩ (fun ext => TL.off hF rfl rfl rfl (decide_eq_false (by omega)) rfl TL.fin) ?_
    refine DR.stepV [_, _, _, _, _, _, _, _, _] rfl [(22, _, some 7), (19, _, some 4)] rfl rfl ⟨⟨rfl, rfl, rfl⟩, ⟨rfl, rfl, rfl⟩, trivial⟩ (fun ext => TL.off hF rfl rfl rfl (decide_eq_false (by omega)) rfl TL.fin) ?_
    refine DR.stepV [_, _, _, _, _, _, _, _, _, _] rfl [(0, _, none), (19, _, some 4)] rfl rfl ⟨⟨rfl, by kernel_rfl⟩, ⟨rfl, rfl, rfl⟩, trivial⟩ (fun ext => TL.off hF rfl rfl rfl (decide_eq_false (by omega)) rfl TL.fin) ?_
    refine DR.stepV [_, _, _, _, _, _, _, _, _, _, _] rfl [(4, _, none), (19, _, some 4)] rfl rfl ⟨⟨rfl, by kernel_rfl⟩, ⟨rfl, rfl, rfl⟩, trivial⟩ (fun ext => TL.off hF rfl rfl rfl (decide_eq_false (by omega)) rfl TL.fin) ?_
    refine DR.stepV [_, _, _, _, _, _, _, _, _, _, _, _] rfl [(24, _, some 9), (25, _, some 10), (19, _, some 4)] rfl rfl ⟨⟨rfl, rfl, rfl⟩, ⟨rfl, rfl, rfl⟩, ⟨rfl, rfl, rfl⟩, trivial⟩ (fun ext => TL.off hF rfl rfl rfl (decide_eq_false (by omega)) rfl TL.fin) ?_
    refine DR.stepV [_, _, _, _, _, _, _, _, _, _, _, _, _] rfl [(26, _, some 11), (19, _, some 4)] rfl rfl ⟨⟨rfl, rfl, rfl⟩, ⟨rfl, rfl, rfl⟩, trivial⟩ (fun ext => TL.off hF rfl rfl rfl (decide_eq_false (by omega)) rfl TL.fin) ?_
    refine DR.done [(27, _), (26, _), (25, _), (24, _), (23, _), (22, _), (21, _), (20, _), (19, _), (18, _), (17, _), (16, _), (15, _)] [_, _] mixed (by kernel_rfl) (by kernel_rfl) (by kernel_rfl) rfl rfl ?_
    refine TL.off hF rfl rfl rfl (decide_eq_false (by omega)) rfl ?_
    refine TL.pickF hF rfl (decide_eq_false (by omega)) rfl rfl ?_
    refine TL.nil ?_
    refine TQ.then_n ?_
    refine T.cond_f rfl rfl ?_
    refine T.exit ?_
    refine TQ.then_x ?_
    refine TQ.then_x ?_
    refine TQ.block_x ?_
    exact TQ.cut j ⟨hj, hlt, fun h => by omega⟩ ⟨rfl, rfl, rfl, rfl, rfl, trivial⟩ rfl
  ·rintro j ⟨hj, hlt, hge⟩
   have htw := tw_split (p := fun y => decide (y < xs[i])) (l := out) (k := j) (by omega) hlt hge
   have hins : insR xs[i] out = out.take j ++ xs[i] :: out.drop j := by unfold insR; rw [htw.1, htw.2]
   rw [hins] at hrs
   refine T.seq ?_
   refine T.region ?_
   refine TL.assign hF rfl rfl ?_
   refine TL.nil ?_
   refine TQ.then_n ?_
   refine T.seq ?_
   refine T.seq ?_
   refine T.region ?_
   refine TL.assign hF rfl rfl ?_
   refine TL.nil ?_
   refine TQ.then_n ?_
   refine T.block ?_
   refine T.hnil ?_
   refine T.loop (ι := Nat × Option Addr × Nat × Seg) (fun z => match z with | (k, na, nc, ng) => k ≤ j ∧ OSl 3 1 (.slice na k nc) k (ints (out.take k)) ng) (fun z => match z with | (k, na, nc, ng) => [(0, .slice a xs.length c), (2, .slice none 0 0), (3, .slice oa i oc), (4, .int .i64 (i : Int)), (5, .int .i64 (j : Int)), (6, .slice na k nc), (7, .int .i64 (k : Int))]) (fun z => match z with | (k, na, nc, ng) => ng :: og :: η) (fun z => j - z.1) (0, none, 0, []) ⟨Nat.zero_le _, OSl.nil _ _⟩ ⟨rfl, rfl, rfl, rfl, rfl, rfl, rfl, trivial⟩ rfl ?_
   rintro ⟨k, na, nc, ng⟩ ⟨hk, hn⟩
   refine T.seq ?_
   refine T.seq ?_
   refine T.region ?_
   refine TL.move hF rfl rfl ?_
   refine TL.move hF rfl rfl ?_
   refine TL.bin hF rfl rfl rfl rfl ?_
   refine TL.nil ?_
   refine TQ.then_n ?_
   first | refine T.cond_d rfl (fun ht34 => ?_) (fun ht34 => ?_) | refine T.cond _ rfl (fun ht34 => ?_) (fun ht34 => ?_)
   ·refine T.skip ?_
    refine TQ.then_n ?_
    refine T.seq ?_
    refine T.block ?_
    refine T.region ?_
    refine TL.move hF rfl rfl ?_
    refine TL.move hF rfl rfl ?_
    refine TL.move hF rfl rfl ?_
    have hkj : k < j := by have h : (k : Int) < (j : Int) := ht34; omega
    refine TL.indexAddr hF rfl rfl (hor.adi (i := k) (by simp; omega)) (by omega) (by omega) rfl ?_
    refine TL.load hF rfl ((hor.up upc).int (i := k) (by omega)) rfl ?_
    refine TL.buildSlice hF rfl (cs := #[.int .i64 (out[k]'(by omega))]) (e := 3) (fun w => by kernel_rfl) rfl (fun b42 => ?_)
    refine TL.append hF 1 rfl rfl rfl hn (row_own (cs := [.int .i64 (out[k]'(by omega))]) (e := 3) (by simp)).src rfl rfl (by simp [Value.oneCell']) (by omega) (by omega) rfl (fun pa pc pg ph => ?_)
    rw [← ints_app] at ph
    refine TL.assign hF rfl rfl ?_
    refine TL.nil ?_
    refine TQ.block_n ?_
    refine TQ.then_n ?_
    refine T.region ?_
    refine TL.move hF rfl rfl ?_
    refine TL.add hF rfl rfl (by omega) (by omega) rfl ?_
    refine TL.assign hF rfl rfl ?_
    refine TL.nil ?_
    have e1 : out.take (k + 1) = out.take k ++ [out[k]] := List.take_succ_eq_append_getElem (by omega)
    rw [← e1] at ph
    refine TQ.pop ?_
    exact TQ.round (k + 1, pa, pc, pg) ⟨by omega, ph⟩ (by dsimp only; omega) ⟨rfl, rfl, rfl, rfl, rfl, rfl, rfl, trivial⟩ rfl
   ·refine T.exit ?_
    refine TQ.then_x ?_
    refine TQ.then_x ?_
    refine TQ.block_x ?_
    refine TQ.then_n ?_
    refine T.seq ?_
    refine T.region ?_
    refine TL.move hF rfl rfl ?_
    refine TL.move hF rfl rfl ?_
    refine TL.move hF rfl rfl ?_
    have hkj : k = j := by have h : ¬ (k : Int) < (j : Int) := ht34; omega
    subst hkj
    refine TL.indexAddr hF rfl rfl (hx.adi (i := i) (by simp; omega)) (by omega) (by omega) rfl ?_
    refine TL.load hF rfl (hx.ro.int (i := i) hix) rfl ?_
    refine TL.buildSlice hF rfl (cs := #[.int .i64 xs[i]]) (e := 3) (fun w => by kernel_rfl) rfl (fun b49 => ?_)
    refine TL.append hF 1 rfl rfl rfl hn (row_own (cs := [.int .i64 xs[i]]) (e := 3) (by simp)).src rfl rfl (by simp [Value.oneCell']) (by omega) (by omega) rfl (fun qa qc qg qh => ?_)
    rw [← ints_app] at qh
    refine TL.assign hF rfl rfl ?_
    refine TL.nil ?_
    refine TQ.then_n ?_
    refine T.seq ?_
    refine T.seq ?_
    refine T.region ?_
    refine TL.move hF rfl rfl ?_
    refine TL.assign hF rfl rfl ?_
    refine TL.nil ?_
    refine TQ.then_n ?_
    refine T.block ?_
    refine T.pick [1, 2] [_, _, _] rfl rfl rfl ?_
    refine T.loop (ι := Nat × Option Addr × Nat × Seg) (fun z => match z with | (t, na, nc, ng) => k ≤ t ∧ t ≤ i ∧ OSl 3 1 (.slice na (t + 1) nc) (t + 1) (ints (out.take k ++ xs[i] :: (out.drop k).take (t - k))) ng) (fun z => match z with | (t, na, nc, ng) => [(0, .slice a xs.length c), (2, .slice none 0 0), (3, .slice oa i oc), (4, .int .i64 (i : Int)), (6, .slice na (t + 1) nc), (8, .int .i64 (t : Int))]) (fun z => match z with | (t, na, nc, ng) => ng :: og :: η) (fun z => i - z.1) (k, qa, qc, qg) ⟨Nat.le_refl _, hj, by rw [Nat.sub_self, List.take_zero]; exact qh⟩ ⟨rfl, rfl, rfl, rfl, rfl, rfl, trivial⟩ rfl ?_
    rintro ⟨t, ta, tc, tg⟩ ⟨hkt, ht, hn⟩
    refine T.seq ?_
    refine T.seq ?_
    refine T.region ?_
    refine TL.move hF rfl rfl ?_
    refine TL.move hF rfl rfl ?_
    refine TL.len hF rfl rfl ?_
    refine TL.bin hF rfl rfl rfl rfl ?_
    refine TL.nil ?_
    refine TQ.then_n ?_
    first | refine T.cond_d rfl (fun ht55 => ?_) (fun ht55 => ?_) | refine T.cond _ rfl (fun ht55 => ?_) (fun ht55 => ?_)
    ·refine T.skip ?_
     refine TQ.then_n ?_
     refine T.seq ?_
     refine T.block ?_
     refine T.region ?_
     refine TL.move hF rfl rfl ?_
     refine TL.move hF rfl rfl ?_
     refine TL.move hF rfl rfl ?_
     have hti : t < i := by have h : (t : Int) < (i : Int) := ht55; omega
     refine TL.indexAddr hF rfl rfl (hor.adi (i := t) (by simp; omega)) (by omega) (by omega) rfl ?_
     refine TL.load hF rfl ((hor.up upc).int (i := t) (by omega)) rfl ?_
     refine TL.buildSlice hF rfl (cs := #[.int .i64 (out[t]'(by omega))]) (e := 3) (fun w => by kernel_rfl) rfl (fun b63 => ?_)
     refine TL.append hF 1 rfl rfl rfl hn (row_own (cs := [.int .i64 (out[t]'(by omega))]) (e := 3) (by simp)).src rfl rfl (by simp [Value.oneCell']) (by omega) (by omega) rfl (fun sa sc sg sh => ?_)
     rw [← ints_app] at sh
     refine TL.assign hF rfl rfl ?_
     refine TL.nil ?_
     refine TQ.block_n ?_
     refine TQ.then_n ?_
     refine T.region ?_
     refine TL.move hF rfl rfl ?_
     refine TL.add hF rfl rfl (by omega) (by omega) rfl ?_
     refine TL.assign hF rfl rfl ?_
     refine TL.nil ?_
     have e1 : out.take k ++ xs[i] :: (out.drop k).take (t - k) ++ [out[t]'(by omega)] = out.take k ++ xs[i] :: (out.drop k).take (t + 1 - k) := by
      rw [show t + 1 - k = (t - k) + 1 by omega, List.take_succ_eq_append_getElem (by simp; omega)]
      simp only [List.getElem_drop, show k + (t - k) = t by omega, List.append_assoc, List.cons_append]
     rw [e1] at sh
     refine TQ.pop ?_
     exact TQ.round (t + 1, sa, sc, sg) ⟨by omega, by omega, sh⟩ (by dsimp only; omega) ⟨rfl, rfl, rfl, rfl, rfl, rfl, trivial⟩ rfl
    ·refine T.exit ?_
     refine TQ.then_x ?_
     refine TQ.then_x ?_
     refine TQ.block_x ?_
     refine TQ.then_n ?_
     refine T.region ?_
     refine TL.move hF rfl rfl ?_
     refine TL.assign hF rfl rfl ?_
     refine TL.nil ?_
     refine TQ.block_n ?_
     refine TQ.then_n ?_
     refine T.region ?_
     refine TL.move hF rfl rfl ?_
     refine TL.add hF rfl rfl (by omega) (by omega) rfl ?_
     refine TL.assign hF rfl rfl ?_
     refine TL.nil ?_
     have hti : t = i := by have h : ¬ (t : Int) < (i : Int) := ht55; omega
     subst hti
     have e1 : (out.drop k).take (t - k) = out.drop k := List.take_of_length_le (by simp; omega)
     rw [e1, ← hrs] at hn
     refine TQ.pick [0] [_, _] rfl rfl rfl ?_
     exact TQ.round (t + 1, ta, tc, tg) ⟨by omega, hn⟩ (by dsimp only; omega) ⟨rfl, rfl, rfl, rfl, trivial⟩ rfl
 ·refine T.exit ?_
  refine TQ.then_x ?_
  refine TQ.then_x ?_
  refine TQ.block_x ?_
  refine TQ.then_n ?_
  refine T.seq ?_
  refine T.region ?_
  refine TL.move hF rfl rfl ?_
  refine TL.assign hF rfl rfl ?_
  refine TL.nil ?_
  refine TQ.then_n ?_
  refine T.ret ?_
  refine TQ.rets [2] _ rfl rfl rfl ?_
  have hin : i = xs.length := by have h : ¬ (i : Int) < (xs.length : Int) := ht12; omega
  subst hin
  rw [List.take_of_length_le (Nat.le_refl _)] at ho
  exact ⟨oa, oc, og, rfl, ho, rfl⟩
end Go.Proofs.YtfnalecnnmkgbaaDoor
/- Next ones, one search after the other. -/
namespace Go.Proofs.YtfnalecnnmkgbaaDoor
open Go.Sl
variable {S : Nat → Prop} {w0 : World} {η : Heap}
def wo (av : List Int) (t : Int) : List Int := av.filter fun x => decide (x ≠ t)
/-- One may be the next one of f: as many can have next ones as before, of the rest. -/
def okP (r av : List Int) (f left t : Int) : Bool := partI f t && decide (((matchN r (wo av t) : Nat) : Int) = left - 1)
def nextsG : List Int → List Int → Int → List Int
  | [], _, _ => []
  | f :: r, av, left => match av.find? (okP r av f left) with
    | some t => t :: nextsG r (wo av t) (left - 1)
    | none => 0 :: nextsG r av left
def nextsS (l : List Int) : List Int := nextsG l l (matchN l l : Nat)
theorem nextsG_len : ∀ (l av : List Int) (left : Int), (nextsG l av left).length = l.length
  | [], _, _ => rfl
  | f :: r, av, left => by
    unfold nextsG
    split
    · rw [List.length_cons, nextsG_len r, List.length_cons]
    · rw [List.length_cons, nextsG_len r, List.length_cons]
theorem wo_len (av : List Int) (t : Int) : (wo av t).length ≤ av.length := List.length_filter_le _ _
theorem Sets.wo {av : List Int} (h : Sets av) (t : Int) : Sets (wo av t) := fun x hx => h x (List.mem_filter.1 hx).1
theorem Sets.drop {l : List Int} (h : Sets l) (k : Nat) : Sets (l.drop k) := fun x hx => h x (List.mem_of_mem_drop hx)
theorem row_tail {a : Option Addr} {l : List Int} {c k : Nat} (hx : Row S w0 η a (ints l)) (hk : k ≤ l.length) (hc : l.length ≤ c) : Row S w0 η (if c = k then a else a.map (·.add (k * 1))) (ints (l.drop k)) := by
  have h := hx.part (c := c) (i := k) (j := l.length) (sz := 1) (by simp [ints]) hk hc
  have e : ((ints l).drop (k * 1)).take ((l.length - k) * 1) = ints (l.drop k) := by
    unfold ints
    rw [Nat.mul_one, Nat.mul_one, ← List.map_drop]
    exact List.take_of_length_le (by simp)
  rw [e] at h; exact h
theorem without_own {ηr η2 : Heap} {a : Option Addr} {xs : List Int} {c : Nat} (n : Int) (hx : Row S w0 ηr a (ints xs)) (hl : xs.length < 4294967296) : Rt Tryd.prog 64 [.slice a xs.length c, .int .i64 n].toArray S w0 (ηr ++ η2) (fun v η' => ∃ oa oc og, v = .slice oa (wo xs n).length oc ∧ OSl 3 1 (.slice oa (wo xs n).length oc) (wo xs n).length (ints (wo xs n)) og ∧ η' = ηr ++ og :: η2) :=
  Rt.frame ηr rfl fun S' w1 hz hb => (without_ref (c := c) n (hx.frz hz) hl).mono fun v η' ⟨oa, oc, og, h1, h2, h3⟩ => ⟨oa, oc, og, h1, h2, by rw [h3]⟩
theorem Matched_own {ηr η2 : Heap} {a b : Option Addr} {l m : List Int} {c d : Nat} (hx : Row S w0 ηr a (ints l)) (hy : Row S w0 ηr b (ints m)) (hl : l.length < 4294967296) (hml : m.length < 4294967296) (hsl : Sets l) (hsm : Sets m) : Rt Tryd.prog 61 [.slice a l.length c, .slice b m.length d].toArray S w0 (ηr ++ η2) (fun v η' => v = .int .i64 (matchN l m : Nat) ∧ η' = ηr ++ η2) :=
  Rt.frame ηr rfl fun S' w1 hz hb => (Matched_ref (c := c) (d := d) (hx.frz hz) (hy.frz hz) hl hml hsl hsm).mono fun v η' ⟨h1, h2⟩ => ⟨h1, by rw [h2]⟩
/-- What stands in the list of next ones. -/
def nxC (done : List Int) (i : Nat) (res : Int) (x : Nat) : Int := if x < i then done.getD x 0 else if x = i then res else 0
end Go.Proofs.YtfnalecnnmkgbaaDoor
/- The next ones, by the specification. -/
namespace Go.Proofs.YtfnalecnnmkgbaaDoor
open Go.Sl
variable {S : Nat → Prop} {w0 : World} {η : Heap}
theorem pos_sets {l : List Int} (h : ∀ x ∈ l, 1 ≤ x ∧ x < 1024) : Sets l := fun x hx => by have := h x hx; omega
set_option maxHeartbeats 4000000 in
theorem nexts_ref {a : Option Addr} {l : List Int} {c : Nat} (hx : Row S w0 [] a (ints l)) (hl : l.length < 4294967296) (hc : l.length ≤ c) (hpos : ∀ x ∈ l, 1 ≤ x ∧ x < 1024) :
  Rt Tryd.prog 39 [.slice a l.length c].toArray S w0 η (fun v η' => ∃ ob lg, v = .slice (some ⟨ob, 0, none⟩) l.length l.length ∧ η' = [(ob, Obj.cells (ints (nextsS l)).toArray 3 (0, 0))] :: lg :: η) := by
 have hsl := pos_sets hpos
 have hF := open_wide
 refine Rt.of (fn := Tryd.f39) Tryd.func39 rfl rfl ?_
 refine T.seq ?_
 refine T.region ?_
 refine TL.assign hF rfl rfl ?_
 refine TL.nil ?_
 refine TQ.then_n ?_
 refine T.seq ?_
 refine T.region ?_
 refine TL.move hF rfl rfl ?_
 refine TL.len hF rfl rfl ?_
 refine TL.makeSlice hF rfl rfl rfl (by omega) (by omega) rfl (fun ob => ?_)
 rw [intC_zero]
 refine TL.assign hF rfl rfl ?_
 refine TL.nil ?_
 refine TQ.then_n ?_
 refine T.seq ?_
 refine T.region ?_
 refine TL.move hF rfl rfl ?_
 refine TL.move hF rfl rfl ?_
 refine TL.move hF rfl rfl ?_
 have hml := matchN_le l l
 refine TL.callV hF (Matched_ref hx.ro hx.ro hl hl hsl hsl) rfl rfl ?_
 refine TL.assign hF rfl rfl ?_
 refine TL.assign hF rfl rfl ?_
 refine TL.assign hF rfl rfl ?_
 refine TL.nil ?_
 refine TQ.then_n ?_
 refine T.seq ?_
 refine T.seq ?_
 refine T.region ?_
 refine TL.assign hF rfl rfl ?_
 refine TL.nil ?_
 refine TQ.then_n ?_
 refine T.block ?_
 refine T.hnil ?_
 refine T.pick [1, 0] [_, _] rfl rfl rfl ?_
 refine T.loop (ι := Nat × List Int × Int × List Int × Option Addr × Nat × Seg) (fun z => match z with | (i, done, fd, av, la, lc, lg) => i ≤ l.length ∧ done.length = i ∧ 0 ≤ fd ∧ fd ≤ i ∧ av.length ≤ l.length ∧ (∀ x ∈ av, 1 ≤ x ∧ x < 1024) ∧ Row S w0 [lg] la (ints av) ∧ nextsS l = done ++ nextsG (l.drop i) av ((matchN l l : Nat) - fd)) (fun z => match z with | (i, done, fd, av, la, lc, lg) => [(0, .slice a l.length c), (2, .slice none 0 0), (3, .slice (some ⟨ob, 0, none⟩) l.length l.length), (4, .slice la av.length lc), (5, .int .i64 fd), (6, .int .i64 ((matchN l l : Nat) : Int)), (7, .int .i64 (i : Int))]) (fun z => match z with | (i, done, fd, av, la, lc, lg) => iseg ob l.length (nxC done i 0) :: lg :: η) (fun z => l.length - z.1) (0, [], 0, l, a, c, []) ⟨Nat.zero_le _, rfl, by omega, by omega, Nat.le_refl _, hpos, hx.ro, by simp [nextsS]⟩ ⟨rfl, rfl, rfl, rfl, rfl, rfl, rfl, trivial⟩ (by simp only [pickL, List.map, List.getD_eq_getElem?_getD]; exact iseg_congr (fun j hj => by unfold nxC; split <;> (try split) <;> simp)) ?_
 rintro ⟨i, done, fd, av, la, lc, lg⟩ ⟨hi, hdl, hf0, hf1, havl, hav, hla, hnx⟩
 refine T.seq ?_
 refine T.seq ?_
 refine T.region ?_
 refine TL.move hF rfl rfl ?_
 refine TL.move hF rfl rfl ?_
 refine TL.len hF rfl rfl ?_
 refine TL.bin hF rfl rfl rfl rfl ?_
 refine TL.nil ?_
 refine TQ.then_n ?_
 first | refine T.cond_d rfl (fun ht19 => ?_) (fun ht19 => ?_) | refine T.cond _ rfl (fun ht19 => ?_) (fun ht19 => ?_)
 ·refine T.skip ?_
  refine TQ.then_n ?_
  refine T.seq ?_
  refine T.block ?_
  have hil : i < l.length := by have h : (i : Int) < (l.length : Int) := ht19; omega
  have hdr : l.drop i = l[i] :: l.drop (i + 1) := drop_step hil
  rw [hdr] at hnx
  have hsa : Sets av := fun x hx2 => by have := hav x hx2; omega
  refine T.cut (ι := Int) (fun res => (match av.find? (okP (l.drop (i + 1)) av l[i] ((matchN l l : Nat) - fd)) with | some t => res = t | none => res = 0)) (fun res => [(0, .slice a l.length c), (2, .slice none 0 0), (3, .slice (some ⟨ob, 0, none⟩) l.length l.length), (4, .slice la av.length lc), (5, .int .i64 fd), (6, .int .i64 ((matchN l l : Nat) : Int)), (7, .int .i64 (i : Int))]) (fun res => iseg ob l.length (nxC done i res) :: lg :: η) ?_ ?_
  ·refine T.seq ?_
   refine T.region ?_
   refine TL.assign hF rfl rfl ?_
   refine TL.nil ?_
   refine TQ.then_n ?_
   refine T.block ?_
   refine T.loop (ι := Nat × Int) (fun z => z.1 ≤ av.length ∧ ((z.2 = 0 ∧ ∀ x ∈ av.take z.1, okP (l.drop (i + 1)) av l[i] ((matchN l l : Nat) - fd) x = false) ∨ (z.2 ≠ 0 ∧ av.find? (okP (l.drop (i + 1)) av l[i] ((matchN l l : Nat) - fd)) = some z.2))) (fun z => [(0, .slice a l.length c), (2, .slice none 0 0), (3, .slice (some ⟨ob, 0, none⟩) l.length l.length), (4, .slice la av.length lc), (5, .int .i64 fd), (6, .int .i64 ((matchN l l : Nat) : Int)), (7, .int .i64 (i : Int)), (8, .int .i64 (z.1 : Int))]) (fun z => iseg ob l.length (nxC done i z.2) :: lg :: η) (fun z => av.length - z.1) (0, 0) ⟨Nat.zero_le _, .inl ⟨rfl, by simp⟩⟩ ⟨rfl, rfl, rfl, rfl, rfl, rfl, rfl, rfl, trivial⟩ rfl ?_
   rintro ⟨j, res⟩ ⟨hj, hres⟩
   dsimp only at hj hres
   refine T.seq ?_
   refine T.seq ?_
   refine T.region ?_
   refine TL.move hF rfl rfl ?_
   refine TL.move hF rfl rfl ?_
   refine TL.len hF rfl rfl ?_
   refine TL.bin hF rfl rfl rfl rfl ?_
   refine TL.move hF rfl rfl ?_
   refine TL.gd (t := 26) rfl (fun g7_26 => ?_) (fun g7_26 => ?_)
   ·refine TL.on rfl rfl rfl (decide_eq_true g7_26) ?_
    refine TL.move hF rfl rfl ?_
    refine TL.on rfl rfl rfl (decide_eq_true g7_26) ?_
    refine TL.move hF rfl rfl ?_
    refine TL.on rfl rfl rfl (decide_eq_true g7_26) ?_
    refine TL.indexAddr hF rfl rfl ⟨_, rfl, rfl⟩ (by omega) (by omega) rfl ?_
    refine TL.on rfl rfl rfl (decide_eq_true g7_26) ?_
    refine TL.load hF rfl (iseg_at (f := nxC done i res) (n := l.length) (b := ob) (j := i) (by simp) hil) rfl ?_
    refine TL.on rfl rfl rfl (decide_eq_true g7_26) ?_
    refine TL.bin hF rfl rfl rfl rfl ?_
    refine TL.pickT hF rfl (decide_eq_true g7_26) rfl rfl ?_
    refine TL.nil ?_
    refine TQ.then_n ?_
    refine T.cond_d rfl (fun ht32 => ?_) (fun ht32 => ?_)
    ·refine T.skip ?_
     refine TQ.then_n ?_
     refine T.seq ?_
     refine T.block ?_
     refine T.seq ?_
     have hjl : j < av.length := by have h : (j : Int) < (av.length : Int) := g7_26; omega
     have hci : nxC done i res i = res := by unfold nxC; rw [if_neg (by omega), if_pos rfl]
     have hr0 : res = 0 := by rw [← hci]; exact ht32
     have hno : ∀ x ∈ av.take j, okP (l.drop (i + 1)) av l[i] ((matchN l l : Nat) - fd) x = false := by
      rcases hres with h | h
      ·exact h.2
      ·exact absurd hr0 h.1
     have hts : Row S w0 [lg] (if c = i + 1 then a else a.map (·.add ((i + 1) * 1))) (ints (l.drop (i + 1))) := row_tail hx.ro (by omega) hc
     have hmle := matchN_le (l.drop (i + 1)) (wo av av[j])
     have hdl2 : (l.drop (i + 1)).length = l.length - (i + 1) := List.length_drop
     have hwl := wo_len av av[j]
     rcases hpt : partI l[i] av[j] with _ | _
     rotate_left
     ·refine T.drawH 25 mixed ?_
      refine DH.pure (i := 0) [(0, _, none)] rfl rfl rfl rfl ⟨⟨rfl, by kernel_rfl⟩, trivial⟩ (fun _ ext => TL.move hF rfl rfl TL.fin) ?_
      refine DH.pure (i := 1) [(7, _, none)] rfl rfl rfl rfl ⟨⟨rfl, by kernel_rfl⟩, trivial⟩ (fun _ ext => TL.move hF rfl rfl TL.fin) ?_
      refine DH.pure (i := 2) [(35, _, some 0), (36, _, some 1)] rfl rfl rfl rfl ⟨⟨rfl, rfl, rfl⟩, ⟨rfl, rfl, rfl⟩, trivial⟩ (fun _ ext => TL.indexAddr hF rfl rfl (hx.adi (i := i) (by simp; omega)) (by omega) (by omega) rfl TL.fin) ?_
      refine DH.read (i := 3) [(37, _, some 2)] rfl rfl rfl rfl ⟨⟨rfl, rfl, rfl⟩, trivial⟩ (fun ext => TL.load hF rfl (hx.ro.int (i := i) hil) rfl TL.fin) ?_
      refine DH.pure (i := 4) [(4, _, none)] rfl rfl rfl rfl ⟨⟨rfl, by kernel_rfl⟩, trivial⟩ (fun _ ext => TL.move hF rfl rfl TL.fin) ?_
      refine DH.pure (i := 5) [(8, _, none)] rfl rfl rfl rfl ⟨⟨rfl, by kernel_rfl⟩, trivial⟩ (fun _ ext => TL.move hF rfl rfl TL.fin) ?_
      refine DH.pure (i := 6) [(39, _, some 4), (40, _, some 5)] rfl rfl rfl rfl ⟨⟨rfl, rfl, rfl⟩, ⟨rfl, rfl, rfl⟩, trivial⟩ (fun _ ext => TL.indexAddr hF rfl rfl (hla.adi (i := j) (by simp; omega)) (by omega) (by omega) rfl TL.fin) ?_
      refine DH.read (i := 7) [(41, _, some 6)] rfl rfl rfl rfl ⟨⟨rfl, rfl, rfl⟩, trivial⟩ (fun ext => TL.load hF rfl ((hla.up (by simp)).int (i := j) hjl) rfl TL.fin) ?_
      refine DH.read (i := 8) [(38, _, some 3), (42, _, some 7)] rfl rfl rfl rfl ⟨⟨rfl, rfl, rfl⟩, ⟨rfl, rfl, rfl⟩, trivial⟩ (fun ext => TL.callV hF (Part_fn (hsl _ (List.getElem_mem hil)) (hsa _ (List.getElem_mem hjl))) rfl rfl TL.fin) ?_
      refine DH.pure (i := 9) [(43, _, some 8)] rfl rfl rfl rfl ⟨⟨rfl, rfl, rfl⟩, trivial⟩ (fun _ ext => TL.move hF rfl rfl TL.fin) ?_
      refine DH.pure (i := 10) [(5, _, none), (44, _, some 9)] rfl rfl rfl rfl ⟨⟨rfl, by kernel_rfl⟩, ⟨rfl, rfl, rfl⟩, trivial⟩ (fun _ ext => TL.on rfl rfl rfl hpt <| TL.move hF rfl rfl TL.fin) ?_
      refine DH.pure (i := 11) [(45, _, some 10), (44, _, some 9)] rfl rfl rfl rfl ⟨⟨rfl, rfl, rfl⟩, ⟨rfl, rfl, rfl⟩, trivial⟩ (fun _ ext => TL.on rfl rfl rfl hpt <| TL.add hF rfl rfl (by omega) (by omega) rfl TL.fin) ?_
      refine DH.pure (i := 12) [(0, _, none), (44, _, some 9)] rfl rfl rfl rfl ⟨⟨rfl, by kernel_rfl⟩, ⟨rfl, rfl, rfl⟩, trivial⟩ (fun _ ext => TL.on rfl rfl rfl hpt <| TL.move hF rfl rfl TL.fin) ?_
      refine DH.pure (i := 13) [(7, _, none), (44, _, some 9)] rfl rfl rfl rfl ⟨⟨rfl, by kernel_rfl⟩, ⟨rfl, rfl, rfl⟩, trivial⟩ (fun _ ext => TL.on rfl rfl rfl hpt <| TL.move hF rfl rfl TL.fin) ?_
      refine DH.pure (i := 14) [(48, _, some 13), (44, _, some 9)] rfl rfl rfl rfl ⟨⟨rfl, rfl, rfl⟩, ⟨rfl, rfl, rfl⟩, trivial⟩ (fun _ ext => TL.on rfl rfl rfl hpt <| TL.addK hF rfl rfl (r := ((i + 1 : Nat) : Int)) ((wrap_i64 (by omega) (by omega)).trans (by omega)) rfl TL.fin) ?_
      refine DH.pure (i := 15) [(47, _, some 12), (49, _, some 14), (44, _, some 9)] rfl rfl rfl rfl ⟨⟨rfl, rfl, rfl⟩, ⟨rfl, rfl, rfl⟩, ⟨rfl, rfl, rfl⟩, trivial⟩ (fun _ ext => TL.on rfl rfl rfl hpt <| TL.slice hF (i := i + 1) (j := l.length) rfl rfl rfl (by omega) (by omega) rfl TL.fin) ?_
      refine DH.pure (i := 16) [(4, _, none), (44, _, some 9)] rfl rfl rfl rfl ⟨⟨rfl, by kernel_rfl⟩, ⟨rfl, rfl, rfl⟩, trivial⟩ (fun _ ext => TL.on rfl rfl rfl hpt <| TL.move hF rfl rfl TL.fin) ?_
      refine DH.pure (i := 17) [(4, _, none), (44, _, some 9)] rfl rfl rfl rfl ⟨⟨rfl, by kernel_rfl⟩, ⟨rfl, rfl, rfl⟩, trivial⟩ (fun _ ext => TL.on rfl rfl rfl hpt <| TL.move hF rfl rfl TL.fin) ?_
      refine DH.pure (i := 18) [(8, _, none), (44, _, some 9)] rfl rfl rfl rfl ⟨⟨rfl, by kernel_rfl⟩, ⟨rfl, rfl, rfl⟩, trivial⟩ (fun _ ext => TL.on rfl rfl rfl hpt <| TL.move hF rfl rfl TL.fin) ?_
      refine DH.pure (i := 19) [(52, _, some 17), (53, _, some 18), (44, _, some 9)] rfl rfl rfl rfl ⟨⟨rfl, rfl, rfl⟩, ⟨rfl, rfl, rfl⟩, ⟨rfl, rfl, rfl⟩, trivial⟩ (fun _ ext => TL.on rfl rfl rfl hpt <| TL.indexAddr hF rfl rfl (hla.adi (i := j) (by simp; omega)) (by omega) (by omega) rfl TL.fin) ?_
      refine DH.read (i := 20) [(54, _, some 19), (44, _, some 9)] rfl rfl rfl rfl ⟨⟨rfl, rfl, rfl⟩, ⟨rfl, rfl, rfl⟩, trivial⟩ (fun ext => TL.on rfl rfl rfl hpt <| TL.load hF rfl ((hla.up (by simp)).int (i := j) hjl) rfl TL.fin) ?_
      refine DH.pure (i := 24) [(6, _, none), (44, _, some 9)] rfl rfl rfl rfl ⟨⟨rfl, by kernel_rfl⟩, ⟨rfl, rfl, rfl⟩, trivial⟩ (fun _ ext => TL.on rfl rfl rfl hpt <| TL.move hF rfl rfl TL.fin) ?_
      refine DH.heavy 21 [(51, _, some 16), (55, _, some 20), (44, _, some 9)] (by kernel_rfl) (by kernel_rfl) (by kernel_rfl) (by kernel_rfl) rfl rfl rfl rfl ⟨⟨rfl, rfl, rfl⟩, ⟨rfl, rfl, rfl⟩, ⟨rfl, rfl, rfl⟩, trivial⟩ (by kernel_rfl) (fun ext => ?_)
      refine TL.on rfl rfl rfl hpt ?_
      refine TL.pick' [1, 0] [_, _] rfl rfl rfl ?_
      refine TL.call hF (without_own (ηr := [lg]) (η2 := iseg ob l.length (nxC done i res) :: η) av[j] hla (by omega)) rfl rfl ?_
      rintro _ _ ⟨wa, wc, wg, rfl, hwo, rfl⟩
      refine TL.finD ?_
      refine DH.heavy 22 [(50, _, some 15), (56, _, some 21), (44, _, some 9)] (by kernel_rfl) (by kernel_rfl) (by kernel_rfl) (by kernel_rfl) rfl rfl rfl rfl ⟨⟨rfl, rfl, rfl⟩, ⟨rfl, rfl, rfl⟩, ⟨rfl, rfl, rfl⟩, trivial⟩ (by kernel_rfl) (fun ext => ?_)
      refine TL.on rfl rfl rfl hpt ?_
      have hmo := Matched_own (ηr := [lg, wg]) (η2 := iseg ob l.length (nxC done i res) :: η) (c := c - (i + 1)) (d := wc) (hts.up (fun z hz => by simp at hz; subst hz; simp)) (hwo.row (η := [lg, wg]) (by simp)) (by omega) (by omega) (hsl.drop (i + 1)) (hsa.wo av[j])
      rw [hdl2] at hmo
      refine TL.callV hF hmo rfl rfl ?_
      refine TL.pick' [2, 0] [_, _, _] rfl rfl rfl ?_
      refine TL.finD ?_
      refine DH.pure (i := 23) [(46, _, some 11), (57, _, some 22), (44, _, some 9)] rfl rfl rfl rfl ⟨⟨rfl, rfl, rfl⟩, ⟨rfl, rfl, rfl⟩, ⟨rfl, rfl, rfl⟩, trivial⟩ (fun _ ext => TL.on rfl rfl rfl hpt <| TL.add hF rfl rfl (by omega) (by omega) rfl TL.fin) ?_
      refine DH.done [(58, _), (57, _), (56, _), (59, _), (55, _), (54, _), (53, _), (52, _), (51, _), (50, _), (49, _), (48, _), (47, _), (46, _), (45, _), (44, _), (43, _), (42, _), (41, _), (40, _), (39, _), (38, _), (37, _), (36, _), (35, _)] [_, _] (by kernel_rfl) (by kernel_rfl) (by kernel_rfl) (by kernel_rfl) rfl rfl ?_
      refine TL.on rfl rfl rfl hpt ?_
      refine TL.bin hF rfl rfl rfl rfl ?_
      refine TL.pickT hF rfl hpt rfl rfl ?_
      refine TL.nil ?_
      refine TQ.then_n ?_
      refine T.cond_d rfl (fun ht61 => ?_) (fun ht61 => ?_)
      ·refine T.region ?_
       refine TL.move hF rfl rfl ?_
       refine TL.move hF rfl rfl ?_
       refine TL.move hF rfl rfl ?_
       refine TL.move hF rfl rfl ?_
       refine TL.indexAddr hF rfl rfl (hla.adi (i := j) (by simp; omega)) (by omega) (by omega) rfl ?_
       refine TL.load hF rfl ((hla.up (by simp [pickL])).int (i := j) hjl) rfl ?_
       refine TL.indexAddr hF rfl rfl ⟨_, rfl, rfl⟩ (by omega) (by omega) rfl ?_
       refine TL.storeI hF 0 rfl rfl rfl rfl (by simp [intC_len]; omega) ?_
       refine TL.nil ?_
       refine TQ.block_n ?_
       refine TQ.then_n ?_
       refine T.region ?_
       refine TL.move hF rfl rfl ?_
       refine TL.add hF rfl rfl (by omega) (by omega) rfl ?_
       refine TL.assign hF rfl rfl ?_
       refine TL.nil ?_
       have hok : okP (l.drop (i + 1)) av l[i] ((matchN l l : Nat) - fd) av[j] = true := by
        unfold okP; rw [hpt, decide_eq_true (by omega)]; rfl
       have hfind : av.find? (okP (l.drop (i + 1)) av l[i] ((matchN l l : Nat) - fd)) = some av[j] := by
        rw [List.find?_eq_some_iff_getElem]
        refine ⟨hok, j, hjl, rfl, fun k hk => ?_⟩
        rw [hno _ (List.mem_take_iff_getElem.2 ⟨k, by omega, rfl⟩)]; rfl
       refine TQ.round (j + 1, av[j]) ⟨by dsimp only; omega, .inr ⟨by have := hav _ (List.getElem_mem hjl); dsimp only; omega, hfind⟩⟩ (by dsimp only; omega) ⟨rfl, rfl, rfl, rfl, rfl, rfl, rfl, rfl, trivial⟩ (iseg_set (j := i) (by simp) (fun x hx2 => ?_))
       unfold nxC
       by_cases e : x = i
       ·subst e; rw [if_neg (by omega), if_pos rfl, if_pos rfl]
       ·rw [if_neg e, if_neg e, if_neg e]
      ·refine T.skip ?_
       refine TQ.block_n ?_
       refine TQ.then_n ?_
       refine T.region ?_
       refine TL.move hF rfl rfl ?_
       refine TL.add hF rfl rfl (by omega) (by omega) rfl ?_
       refine TL.assign hF rfl rfl ?_
       refine TL.nil ?_
       refine TQ.round (j + 1, res) ⟨by dsimp only; omega, .inl ⟨hr0, fun x hx2 => ?_⟩⟩ (by dsimp only; omega) ⟨rfl, rfl, rfl, rfl, rfl, rfl, rfl, rfl, trivial⟩ rfl
       rw [List.take_succ_eq_append_getElem hjl] at hx2
       rcases List.mem_append.1 hx2 with h | h
       ·exact hno x h
       ·rw [List.mem_singleton.1 h]; unfold okP; rw [hpt, decide_eq_false (by omega)]; rfl
     ·refine T.drawH 25 mixed ?_
      refine DH.pure (i := 0) [(0, _, none)] rfl rfl rfl rfl ⟨⟨rfl, by kernel_rfl⟩, trivial⟩ (fun _ ext => TL.move hF rfl rfl TL.fin) ?_
      refine DH.pure (i := 1) [(7, _, none)] rfl rfl rfl rfl ⟨⟨rfl, by kernel_rfl⟩, trivial⟩ (fun _ ext => TL.move hF rfl rfl TL.fin) ?_
      refine DH.pure (i := 2) [(35, _, some 0), (36, _, some 1)] rfl rfl rfl rfl ⟨⟨rfl, rfl, rfl⟩, ⟨rfl, rfl, rfl⟩, trivial⟩ (fun _ ext => TL.indexAddr hF rfl rfl (hx.adi (i := i) (by simp; omega)) (by omega) (by omega) rfl TL.fin) ?_
      refine DH.read (i := 3) [(37, _, some 2)] rfl rfl rfl rfl ⟨⟨rfl, rfl, rfl⟩, trivial⟩ (fun ext => TL.load hF rfl (hx.ro.int (i := i) hil) rfl TL.fin) ?_
      refine DH.pure (i := 4) [(4, _, none)] rfl rfl rfl rfl ⟨⟨rfl, by kernel_rfl⟩, trivial⟩ (fun _ ext => TL.move hF rfl rfl TL.fin) ?_
      refine DH.pure (i := 5) [(8, _, none)] rfl rfl rfl rfl ⟨⟨rfl, by kernel_rfl⟩, trivial⟩ (fun _ ext => TL.move hF rfl rfl TL.fin) ?_
      refine DH.pure (i := 6) [(39, _, some 4), (40, _, some 5)] rfl rfl rfl rfl ⟨⟨rfl, rfl, rfl⟩, ⟨rfl, rfl, rfl⟩, trivial⟩ (fun _ ext => TL.indexAddr hF rfl rfl (hla.adi (i := j) (by simp; omega)) (by omega) (by omega) rfl TL.fin) ?_
      refine DH.read (i := 7) [(41, _, some 6)] rfl rfl rfl rfl ⟨⟨rfl, rfl, rfl⟩, trivial⟩ (fun ext => TL.load hF rfl ((hla.up (by simp)).int (i := j) hjl) rfl TL.fin) ?_
      refine DH.read (i := 8) [(38, _, some 3), (42, _, some 7)] rfl rfl rfl rfl ⟨⟨rfl, rfl, rfl⟩, ⟨rfl, rfl, rfl⟩, trivial⟩ (fun ext => TL.callV hF (Part_fn (hsl _ (List.getElem_mem hil)) (hsa _ (List.getElem_mem hjl))) rfl rfl TL.fin) ?_
      refine DH.pure (i := 9) [(43, _, some 8)] rfl rfl rfl rfl ⟨⟨rfl, rfl, rfl⟩, trivial⟩ (fun _ ext => TL.move hF rfl rfl TL.fin) ?_
      refine DH.pure (i := 10) [(5, _, none), (44, _, some 9)] rfl rfl rfl rfl ⟨⟨rfl, by kernel_rfl⟩, ⟨rfl, rfl, rfl⟩, trivial⟩ (fun _ ext => TL.off hF rfl rfl rfl hpt rfl TL.fin) ?_
      refine DH.pure (i := 11) [(45, _, some 10), (44, _, some 9)] rfl rfl rfl rfl ⟨⟨rfl, rfl, rfl⟩, ⟨rfl, rfl, rfl⟩, trivial⟩ (fun _ ext => TL.off hF rfl rfl rfl hpt rfl TL.fin) ?_
      refine DH.pure (i := 12) [(0, _, none), (44, _, some 9)] rfl rfl rfl rfl ⟨⟨rfl, by kernel_rfl⟩, ⟨rfl, rfl, rfl⟩, trivial⟩ (fun _ ext => TL.off hF rfl rfl rfl hpt rfl TL.fin) ?_
      refine DH.pure (i := 13) [(7, _, none), (44, _, some 9)] rfl rfl rfl rfl ⟨⟨rfl, by kernel_rfl⟩, ⟨rfl, rfl, rfl⟩, trivial⟩ (fun _ ext => TL.off hF rfl rfl rfl hpt rfl TL.fin) ?_
      refine DH.pure (i := 14) [(48, _, some 13), (44, _, some 9)] rfl rfl rfl rfl ⟨⟨rfl, rfl, rfl⟩, ⟨rfl, rfl, rfl⟩, trivial⟩ (fun _ ext => TL.off hF rfl rfl rfl hpt rfl TL.fin) ?_
      refine DH.pure (i := 15) [(47, _, some 12), (49, _, some 14), (44, _, some 9)] rfl rfl rfl rfl ⟨⟨rfl, rfl, rfl⟩, ⟨rfl, rfl, rfl⟩, ⟨rfl, rfl, rfl⟩, trivial⟩ (fun _ ext => TL.off hF rfl rfl rfl hpt rfl TL.fin) ?_
      refine DH.pure (i := 16) [(4, _, none), (44, _, some 9)] rfl rfl rfl rfl ⟨⟨rfl, by kernel_rfl⟩, ⟨rfl, rfl, rfl⟩, trivial⟩ (fun _ ext => TL.off hF rfl rfl rfl hpt rfl TL.fin) ?_
      refine DH.pure (i := 17) [(4, _, none), (44, _, some 9)] rfl rfl rfl rfl ⟨⟨rfl, by kernel_rfl⟩, ⟨rfl, rfl, rfl⟩, trivial⟩ (fun _ ext => TL.off hF rfl rfl rfl hpt rfl TL.fin) ?_
      refine DH.pure (i := 18) [(8, _, none), (44, _, some 9)] rfl rfl rfl rfl ⟨⟨rfl, by kernel_rfl⟩, ⟨rfl, rfl, rfl⟩, trivial⟩ (fun _ ext => TL.off hF rfl rfl rfl hpt rfl TL.fin) ?_
      refine DH.pure (i := 19) [(52, _, some 17), (53, _, some 18), (44, _, some 9)] rfl rfl rfl rfl ⟨⟨rfl, rfl, rfl⟩, ⟨rfl, rfl, rfl⟩, ⟨rfl, rfl, rfl⟩, trivial⟩ (fun _ ext => TL.off hF rfl rfl rfl hpt rfl TL.fin) ?_
      refine DH.pure (i := 20) [(54, _, some 19), (44, _, some 9)] rfl rfl rfl rfl ⟨⟨rfl, rfl, rfl⟩, ⟨rfl, rfl, rfl⟩, trivial⟩ (fun _ ext => TL.off hF rfl rfl rfl hpt rfl TL.fin) ?_
      refine DH.pure (i := 24) [(6, _, none), (44, _, some 9)] rfl rfl rfl rfl ⟨⟨rfl, by kernel_rfl⟩, ⟨rfl, rfl, rfl⟩, trivial⟩ (fun _ ext => TL.off hF rfl rfl rfl hpt rfl TL.fin) ?_
      refine DH.heavy 21 [(51, _, some 16), (55, _, some 20), (44, _, some 9)] (by kernel_rfl) (by kernel_rfl) (by kernel_rfl) (by kernel_rfl) rfl rfl rfl rfl ⟨⟨rfl, rfl, rfl⟩, ⟨rfl, rfl, rfl⟩, ⟨rfl, rfl, rfl⟩, trivial⟩ (by kernel_rfl) (fun ext => ?_)
      refine TL.off hF rfl rfl rfl hpt rfl (TL.finD ?_)
      refine DH.heavy 22 [(50, _, some 15), (56, _, some 21), (44, _, some 9)] (by kernel_rfl) (by kernel_rfl) (by kernel_rfl) (by kernel_rfl) rfl rfl rfl rfl ⟨⟨rfl, rfl, rfl⟩, ⟨rfl, rfl, rfl⟩, ⟨rfl, rfl, rfl⟩, trivial⟩ (by kernel_rfl) (fun ext => ?_)
      refine TL.off hF rfl rfl rfl hpt rfl (TL.finD ?_)
      refine DH.pure (i := 23) [(46, _, some 11), (57, _, some 22), (44, _, some 9)] rfl rfl rfl rfl ⟨⟨rfl, rfl, rfl⟩, ⟨rfl, rfl, rfl⟩, ⟨rfl, rfl, rfl⟩, trivial⟩ (fun _ ext => TL.off hF rfl rfl rfl hpt rfl TL.fin) ?_
      refine DH.done [(58, _), (57, _), (56, _), (59, _), (55, _), (54, _), (53, _), (52, _), (51, _), (50, _), (49, _), (48, _), (47, _), (46, _), (45, _), (44, _), (43, _), (42, _), (41, _), (40, _), (39, _), (38, _), (37, _), (36, _), (35, _)] [_, _] (by kernel_rfl) (by kernel_rfl) (by kernel_rfl) (by kernel_rfl) rfl rfl ?_
      refine TL.off hF rfl rfl rfl hpt rfl ?_
      refine TL.pickF hF rfl hpt rfl rfl ?_
      refine TL.nil ?_
      refine TQ.then_n ?_
      refine T.cond_f rfl rfl ?_
      refine T.skip ?_
      refine TQ.block_n ?_
      refine TQ.then_n ?_
      refine T.region ?_
      refine TL.move hF rfl rfl ?_
      refine TL.add hF rfl rfl (by omega) (by omega) rfl ?_
      refine TL.assign hF rfl rfl ?_
      refine TL.nil ?_
      refine TQ.round (j + 1, res) ⟨by dsimp only; omega, .inl ⟨hr0, fun x hx2 => ?_⟩⟩ (by dsimp only; omega) ⟨rfl, rfl, rfl, rfl, rfl, rfl, rfl, rfl, trivial⟩ rfl
      rw [List.take_succ_eq_append_getElem hjl] at hx2
      rcases List.mem_append.1 hx2 with h | h
      ·exact hno x h
      ·rw [List.mem_singleton.1 h]; unfold okP; rw [hpt]; rfl
    ·refine T.exit ?_
     refine TQ.then_x ?_
     refine TQ.then_x ?_
     refine TQ.block_x ?_
     have hci : nxC done i res i = res := by unfold nxC; rw [if_neg (by omega), if_pos rfl]
     have hr0 : res ≠ 0 := by rw [← hci]; exact ht32
     refine TQ.cut res ?_ ⟨rfl, rfl, rfl, rfl, rfl, rfl, rfl, trivial⟩ rfl
     rcases hres with ⟨h1, h2⟩ | ⟨h1, h2⟩
     ·exact absurd h1 hr0
     ·rw [h2]
   ·refine TL.off hF rfl rfl rfl (decide_eq_false g7_26) rfl ?_
    refine TL.off hF rfl rfl rfl (decide_eq_false g7_26) rfl ?_
    refine TL.off hF rfl rfl rfl (decide_eq_false g7_26) rfl ?_
    refine TL.off hF rfl rfl rfl (decide_eq_false g7_26) rfl ?_
    refine TL.off hF rfl rfl rfl (decide_eq_false g7_26) rfl ?_
    refine TL.pickF hF rfl (decide_eq_false g7_26) rfl rfl ?_
    refine TL.nil ?_
    refine TQ.then_n ?_
    refine T.cond_f rfl rfl ?_
    refine T.exit ?_
    refine TQ.then_x ?_
    refine TQ.then_x ?_
    refine TQ.block_x ?_
    refine TQ.cut res ?_ ⟨rfl, rfl, rfl, rfl, rfl, rfl, rfl, trivial⟩ rfl
    rcases hres with ⟨h1, h2⟩ | ⟨h1, h2⟩
    ·have hfind : av.find? (okP (l.drop (i + 1)) av l[i] ((matchN l l : Nat) - fd)) = none := by
      rw [List.find?_eq_none]
      intro x hx2
      rw [h2 x (by rw [List.take_of_length_le (by have h : ¬ (j : Int) < (av.length : Int) := g7_26; omega)]; exact hx2)]; simp
     rw [hfind]; exact h1
    ·rw [h2]
  ·rintro res hres
   refine T.seq ?_
   refine T.region ?_
   refine TL.move hF rfl rfl ?_
   refine TL.move hF rfl rfl ?_
   refine TL.indexAddr hF rfl rfl ⟨_, rfl, rfl⟩ (by omega) (by omega) rfl ?_
   refine TL.load hF rfl (iseg_at (f := nxC done i res) (n := l.length) (b := ob) (j := i) (by simp) hil) rfl ?_
   have hci : nxC done i res i = res := by unfold nxC; rw [if_neg (by omega), if_pos rfl]
   rw [hci]
   refine TL.bin hF rfl rfl rfl rfl ?_
   refine TL.nil ?_
   refine TQ.then_n ?_
   refine T.cond_d rfl (fun ht73 => ?_) (fun ht73 => ?_)
   ·refine T.region ?_
    refine TL.move hF rfl rfl ?_
    refine TL.move hF rfl rfl ?_
    refine TL.move hF rfl rfl ?_
    refine TL.indexAddr hF rfl rfl ⟨_, rfl, rfl⟩ (by omega) (by omega) rfl ?_
    refine TL.load hF rfl (iseg_at (f := nxC done i res) (n := l.length) (b := ob) (j := i) (by simp) hil) rfl ?_
    rw [hci]
    refine TL.pick' [1, 0] [_, _] rfl rfl rfl ?_
    refine TL.call hF (without_own (ηr := [lg]) (η2 := iseg ob l.length (nxC done i res) :: η) res hla (by omega)) rfl rfl ?_
    rintro _ _ ⟨wa, wc, wg, rfl, hwo, rfl⟩
    have hwl := wo_len av res
    refine TL.move hF rfl rfl ?_
    refine TL.add hF rfl rfl (by omega) (by omega) rfl ?_
    refine TL.assign hF rfl rfl ?_
    refine TL.assign hF rfl rfl ?_
    refine TL.nil ?_
    refine TQ.block_n ?_
    refine TQ.then_n ?_
    refine T.region ?_
    refine TL.move hF rfl rfl ?_
    refine TL.add hF rfl rfl (by omega) (by omega) rfl ?_
    refine TL.assign hF rfl rfl ?_
    refine TL.nil ?_
    have hdone : ∀ x, x < l.length → nxC done i res x = nxC (done ++ [res]) (i + 1) 0 x := fun x hx2 => by
     unfold nxC
     by_cases e : x < i
     ·rw [if_pos e, if_pos (by omega), List.getD_eq_getElem?_getD, List.getD_eq_getElem?_getD, List.getElem?_append_left (by omega)]
     ·by_cases e2 : x = i
      ·subst e2
       rw [if_neg e, if_pos rfl, if_pos (by omega), List.getD_eq_getElem?_getD, List.getElem?_append_right (by omega), hdl, Nat.sub_self]; rfl
      ·rw [if_neg e, if_neg e2, if_neg (by omega)]; split <;> rfl
    have hfd : av.find? (okP (l.drop (i + 1)) av l[i] ((matchN l l : Nat) - fd)) = some res := by
     cases hq : av.find? (okP (l.drop (i + 1)) av l[i] ((matchN l l : Nat) - fd)) with
     | none => rw [hq] at hres; have h : res = 0 := hres; omega
     | some t => rw [hq] at hres; have h : res = t := hres; rw [h]
    unfold nextsG at hnx
    rw [hfd] at hnx
    refine TQ.pick [2, 1] [_, _, _] rfl rfl rfl ?_
    refine TQ.heap (iseg_congr hdone) ?_
    refine TQ.round (i + 1, done ++ [res], fd + 1, wo av res, wa, wc, wg) ⟨by omega, by simp [hdl], by omega, by omega, by omega, fun x hx2 => hav x (List.mem_filter.1 hx2).1, hwo.row List.mem_cons_self, ?_⟩ (by dsimp only; omega) ⟨rfl, rfl, rfl, rfl, rfl, rfl, rfl, trivial⟩ rfl
    rw [hnx, List.append_assoc]
    have e1 : ((matchN l l : Nat) : Int) - (fd + 1) = ((matchN l l : Nat) : Int) - fd - 1 := by omega
    rw [e1]; rfl
   ·refine T.skip ?_
    refine TQ.block_n ?_
    refine TQ.then_n ?_
    refine T.region ?_
    refine TL.move hF rfl rfl ?_
    refine TL.add hF rfl rfl (by omega) (by omega) rfl ?_
    refine TL.assign hF rfl rfl ?_
    refine TL.nil ?_
    have hdone : ∀ x, x < l.length → nxC done i res x = nxC (done ++ [res]) (i + 1) 0 x := fun x hx2 => by
     unfold nxC
     by_cases e : x < i
     ·rw [if_pos e, if_pos (by omega), List.getD_eq_getElem?_getD, List.getD_eq_getElem?_getD, List.getElem?_append_left (by omega)]
     ·by_cases e2 : x = i
      ·subst e2
       rw [if_neg e, if_pos rfl, if_pos (by omega), List.getD_eq_getElem?_getD, List.getElem?_append_right (by omega), hdl, Nat.sub_self]; rfl
      ·rw [if_neg e, if_neg e2, if_neg (by omega)]; split <;> rfl
    have hr0 : res = 0 := by
     cases hq : av.find? (okP (l.drop (i + 1)) av l[i] ((matchN l l : Nat) - fd)) with
     | none => rw [hq] at hres; exact hres
     | some t =>
      rw [hq] at hres; have h : res = t := hres
      have h2 := hav t (List.mem_of_find?_eq_some hq)
      omega
    have hfd : av.find? (okP (l.drop (i + 1)) av l[i] ((matchN l l : Nat) - fd)) = none := by
     cases hq : av.find? (okP (l.drop (i + 1)) av l[i] ((matchN l l : Nat) - fd)) with
     | none => rfl
     | some t =>
      rw [hq] at hres; have h : res = t := hres
      have h2 := hav t (List.mem_of_find?_eq_some hq)
      omega
    unfold nextsG at hnx
    rw [hfd] at hnx
    refine TQ.heap (iseg_congr hdone) ?_
    refine TQ.round (i + 1, done ++ [res], fd, av, la, lc, lg) ⟨by omega, by simp [hdl], by omega, by omega, by omega, hav, hla, ?_⟩ (by dsimp only; omega) ⟨rfl, rfl, rfl, rfl, rfl, rfl, rfl, trivial⟩ rfl
    rw [hnx, List.append_assoc, hr0]; rfl
 ·refine T.exit ?_
  refine TQ.then_x ?_
  refine TQ.then_x ?_
  refine TQ.block_x ?_
  refine TQ.then_n ?_
  refine T.seq ?_
  refine T.region ?_
  refine TL.move hF rfl rfl ?_
  refine TL.assign hF rfl rfl ?_
  refine TL.nil ?_
  refine TQ.then_n ?_
  refine T.ret ?_
  refine TQ.rets [2] _ rfl rfl rfl ?_
  have hin : i = l.length := by have h : ¬ (i : Int) < (l.length : Int) := ht19; omega
  subst hin
  rw [List.drop_length] at hnx
  have hdn : nextsS l = done := by rw [hnx]; simp [nextsG]
  refine ⟨ob, lg, rfl, ?_⟩
  rw [hdn]
  have e : iseg ob l.length (nxC done l.length 0) = [(ob, Obj.cells (ints done).toArray 3 (0, 0))] := by
   have h1 : intC l.length (nxC done l.length 0) = ints done := by
    rw [ints_intC, hdl]
    exact intC_congr fun j hj => by unfold nxC; rw [if_pos hj]
   unfold iseg; rw [h1]
  show iseg ob l.length (nxC done l.length 0) :: lg :: η = _
  rw [e]
end Go.Proofs.YtfnalecnnmkgbaaDoor
/- What is refused, by the specification. -/
namespace Go.Proofs.YtfnalecnnmkgbaaDoor
open Go.Sl
variable {S : Nat → Prop} {w0 : World} {η : Heap}
theorem row_head {a : Option Addr} {l : List Int} {c k : Nat} (hx : Row S w0 η a (ints l)) (hk : k ≤ l.length) (hc : l.length ≤ c) : Row S w0 η (if c = 0 then a else a.map (·.add (0 * 1))) (ints (l.take k)) := by
 have h := hx.part (c := c) (i := 0) (j := k) (sz := 1) (by simp [ints]; omega) (Nat.zero_le _) (by omega)
 have e : ((ints l).drop (0 * 1)).take ((k - 0) * 1) = ints (l.take k) := by
  unfold ints
  simp [List.map_take]
 rw [e] at h; exact h
theorem has_head {a : Option Addr} {l : List Int} {c k : Nat} (n : Int) (hx : Row S w0 [] a (ints l)) (hk : k ≤ l.length) (hc : l.length ≤ c) (hl : l.length < 2 ^ 63) : Rt Tryd.prog 40 [.slice (if c = 0 then a else a.map (·.add (0 * 1))) (k - 0) (c - 0), .int .i64 n].toArray S w0 η (fun v η' => v = .bool (decide (n ∈ l.take k)) ∧ η' = η) := by
 have h := has_fn (η := η) (c := c - 0) n (row_head hx hk hc).ro (by rw [List.length_take]; omega)
 rw [List.length_take, Nat.min_eq_left hk] at h
 exact h
theorem two_pow {m : Nat} (h : m ≤ 10) : 2 ^ m ≤ 1024 := Nat.pow_le_pow_right (by decide) h
set_option maxHeartbeats 2000000 in
theorem Check_ref {a : Option Addr} {l : List Int} {c : Nat} (cols : Int) (hx : Row S w0 [] a (ints l)) (hl : l.length < 2 ^ 63) (hc : l.length ≤ c) :
  Rt Tryd.prog 21 [.int .i64 cols, .slice a l.length c].toArray S w0 η (fun v η' => v = .int .i64 (checkE cols l) ∧ η' = η) := by
 have hF := open_wide
 refine Rt.of (fn := Tryd.f21) Tryd.func21 rfl rfl ?_
 refine T.seq ?_
 refine T.region ?_
 refine TL.assign hF rfl rfl ?_
 refine TL.nil ?_
 refine TQ.then_n ?_
 refine T.seq ?_
 refine T.seq ?_
 refine T.region ?_
 refine TL.move hF rfl rfl ?_
 refine TL.bin hF rfl rfl rfl rfl ?_
 refine TL.move hF rfl rfl ?_
 refine TL.gd (t := 8) rfl (fun g1_8 => ?_) (fun g1_8 => ?_)
 ·refine TL.off hF rfl rfl rfl (decide_eq_true g1_8) rfl ?_
  refine TL.off hF rfl rfl rfl (decide_eq_true g1_8) rfl ?_
  refine TL.pickT hF rfl (decide_eq_true g1_8) rfl rfl ?_
  refine TL.nil ?_
  refine TQ.then_n ?_
  refine T.cond_t rfl rfl ?_
  refine T.seq ?_
  refine T.region ?_
  refine TL.assign hF rfl rfl ?_
  refine TL.nil ?_
  refine TQ.then_n ?_
  refine T.ret ?_
  refine TQ.then_r ?_
  refine TQ.rets [4] _ rfl rfl rfl ?_
  exact ⟨by unfold checkE; rw [if_pos (by omega)]; rfl, rfl⟩
 ·refine TL.on rfl rfl rfl (decide_eq_false g1_8) ?_
  refine TL.move hF rfl rfl ?_
  refine TL.on rfl rfl rfl (decide_eq_false g1_8) ?_
  refine TL.bin hF rfl rfl rfl rfl ?_
  refine TL.pickF hF rfl (decide_eq_false g1_8) rfl rfl ?_
  refine TL.nil ?_
  refine TQ.then_n ?_
  refine T.cond_d rfl (fun ht11 => ?_) (fun ht11 => ?_)
  ·refine T.seq ?_
   refine T.region ?_
   refine TL.assign hF rfl rfl ?_
   refine TL.nil ?_
   refine TQ.then_n ?_
   refine T.ret ?_
   refine TQ.then_r ?_
   refine TQ.rets [4] _ rfl rfl rfl ?_
   exact ⟨by unfold checkE; rw [if_pos (by omega)]; rfl, rfl⟩
  ·refine T.skip ?_
   refine TQ.then_n ?_
   refine T.seq ?_
   refine T.seq ?_
   refine T.region ?_
   refine TL.move hF rfl rfl ?_
   refine TL.len hF rfl rfl ?_
   refine TL.bin hF rfl rfl rfl rfl ?_
   refine TL.nil ?_
   refine TQ.then_n ?_
   refine T.cond_d rfl (fun ht14 => ?_) (fun ht14 => ?_)
   ·refine T.seq ?_
    refine T.region ?_
    refine TL.assign hF rfl rfl ?_
    refine TL.nil ?_
    refine TQ.then_n ?_
    refine T.ret ?_
    refine TQ.then_r ?_
    refine TQ.rets [4] _ rfl rfl rfl ?_
    exact ⟨by unfold checkE; rw [if_neg (by omega), if_pos (by omega)]; rfl, rfl⟩
   ·refine T.skip ?_
    refine TQ.then_n ?_
    refine T.seq ?_
    refine T.seq ?_
    refine T.region ?_
    refine TL.assign hF rfl rfl ?_
    refine TL.nil ?_
    refine TQ.then_n ?_
    refine T.block ?_
    obtain ⟨m, rfl⟩ : ∃ m : Nat, cols = (m : Int) := ⟨cols.toNat, by omega⟩
    have hm10 : m ≤ 10 := by omega
    have hp := two_pow hm10
    have hl24 : l.length ≤ 24 := by omega
    refine T.loop (ι := Nat) (fun i => i ≤ l.length ∧ chkL m [] l = chkL m (l.take i) (l.drop i)) (fun i => [(0, .int .i64 (m : Int)), (1, .slice a l.length c), (4, .int .i64 0), (5, .int .i64 (i : Int))]) (fun _ => η) (fun i => l.length - i) 0 ⟨Nat.zero_le _, rfl⟩ ⟨rfl, rfl, rfl, rfl, trivial⟩ rfl ?_
    rintro i ⟨hi, hinv⟩
    refine T.seq ?_
    refine T.seq ?_
    refine T.region ?_
    refine TL.move hF rfl rfl ?_
    refine TL.move hF rfl rfl ?_
    refine TL.len hF rfl rfl ?_
    refine TL.bin hF rfl rfl rfl rfl ?_
    refine TL.nil ?_
    refine TQ.then_n ?_
    first | refine T.cond_d rfl (fun ht18 => ?_) (fun ht18 => ?_) | refine T.cond _ rfl (fun ht18 => ?_) (fun ht18 => ?_)
    ·refine T.skip ?_
     refine TQ.then_n ?_
     refine T.seq ?_
     refine T.block ?_
     refine T.seq ?_
     refine T.seq ?_
     have hil : i < l.length := by have h : (i : Int) < (l.length : Int) := ht18; omega
     have hdr : l.drop i = l[i] :: l.drop (i + 1) := drop_step hil
     by_cases hlt : l[i] < 1
     ·refine T.draw ?_
      refine DR.stepV [_] rfl [(1, _, none)] rfl rfl ⟨⟨rfl, by kernel_rfl⟩, trivial⟩ (fun ext => TL.move hF rfl rfl TL.fin) ?_
      refine DR.stepV [_, _] rfl [(5, _, none)] rfl rfl ⟨⟨rfl, by kernel_rfl⟩, trivial⟩ (fun ext => TL.move hF rfl rfl TL.fin) ?_
      refine DR.stepV [_, _, _] rfl [(21, _, some 0), (22, _, some 1)] rfl rfl ⟨⟨rfl, rfl, rfl⟩, ⟨rfl, rfl, rfl⟩, trivial⟩ (fun ext => TL.indexAddr hF rfl rfl (hx.adi (i := i) (by simp; omega)) (by omega) (by omega) rfl TL.fin) ?_
      refine DR.stepV [_, _, _, _] rfl [(23, _, some 2)] rfl rfl ⟨⟨rfl, rfl, rfl⟩, trivial⟩ (fun ext => TL.load hF rfl (hx.ro.int (i := i) hil) rfl TL.fin) ?_
      refine DR.stepV [_, _, _, _, _] rfl [(24, _, some 3)] rfl rfl ⟨⟨rfl, rfl, rfl⟩, trivial⟩ (fun ext => TL.bin hF rfl rfl rfl rfl TL.fin) ?_
      refine DR.stepV [_, _, _, _, _, _] rfl [(25, _, some 4)] rfl rfl ⟨⟨rfl, rfl, rfl⟩, trivial⟩ (fun ext => TL.move hF rfl rfl TL.fin) ?_
      refine DR.stepV [_, _, _, _, _, _, _] rfl [(1, _, none), (26, _, some 5)] rfl rfl ⟨⟨rfl, by kernel_rfl⟩, ⟨rfl, rfl, rfl⟩, trivial⟩ (fun ext => TL.off hF rfl rfl rfl (decide_eq_true hlt) rfl TL.fin) ?_
      refine DR.stepV [_, _, _, _, _, _, _, _] rfl [(5, _, none), (26, _, some 5)] rfl rfl ⟨⟨rfl, by kernel_rfl⟩, ⟨rfl, rfl, rfl⟩, trivial⟩ (fun ext => TL.off hF rfl rfl rfl (decide_eq_true hlt) rfl TL.fin) ?_
      refine DR.stepV [_, _, _, _, _, _, _, _, _] rfl [(27, _, some 6), (28, _, some 7), (26, _, some 5)] rfl rfl ⟨⟨rfl, rfl, rfl⟩, ⟨rfl, rfl, rfl⟩, ⟨rfl, rfl, rfl⟩, trivial⟩ (fun ext => TL.off hF rfl rfl rfl (decide_eq_true hlt) rfl TL.fin) ?_
      refine DR.stepV [_, _, _, _, _, _, _, _, _, _] rfl [(29, _, some 8), (26, _, some 5)] rfl rfl ⟨⟨rfl, rfl, rfl⟩, ⟨rfl, rfl, rfl⟩, trivial⟩ (fun ext => TL.off hF rfl rfl rfl (decide_eq_true hlt) rfl TL.fin) ?_
      refine DR.stepV [_, _, _, _, _, _, _, _, _, _, _] rfl [(0, _, none), (26, _, some 5)] rfl rfl ⟨⟨rfl, by kernel_rfl⟩, ⟨rfl, rfl, rfl⟩, trivial⟩ (fun ext => TL.off hF rfl rfl rfl (decide_eq_true hlt) rfl TL.fin) ?_
      refine DR.stepV [_, _, _, _, _, _, _, _, _, _, _, _] rfl [(31, _, some 10), (26, _, some 5)] rfl rfl ⟨⟨rfl, rfl, rfl⟩, ⟨rfl, rfl, rfl⟩, trivial⟩ (fun ext => TL.off hF rfl rfl rfl (decide_eq_true hlt) rfl TL.fin) ?_
      refine DR.done [(32, _), (31, _), (30, _), (29, _), (28, _), (27, _), (26, _), (25, _), (24, _), (23, _), (22, _), (21, _)] [_, _] mixed (by kernel_rfl) (by kernel_rfl) (by kernel_rfl) rfl rfl ?_
      refine TL.off hF rfl rfl rfl (decide_eq_true hlt) rfl ?_
      refine TL.pickT hF rfl (decide_eq_true hlt) rfl rfl ?_
      refine TL.nil ?_
      refine TQ.then_n ?_
      refine T.cond_t rfl rfl ?_
      refine T.seq ?_
      refine T.region ?_
      refine TL.assign hF rfl rfl ?_
      refine TL.nil ?_
      refine TQ.then_n ?_
      refine T.ret ?_
      refine TQ.then_r ?_
      refine TQ.block_r ?_
      refine TQ.then_r ?_
      refine TQ.then_r ?_
      refine TQ.block_r ?_
      refine TQ.then_r ?_
      refine TQ.rets [4] _ rfl rfl rfl ?_
      have e : chkL m [] l = 2 := by rw [hinv, hdr]; unfold chkL; rw [if_neg (by omega)]
      exact ⟨by unfold checkE; rw [if_neg (by omega), if_neg (by omega), Int.toNat_natCast, e]; rfl, rfl⟩
     ·refine T.draw ?_
      refine DR.stepV [_] rfl [(1, _, none)] rfl rfl ⟨⟨rfl, by kernel_rfl⟩, trivial⟩ (fun ext => TL.move hF rfl rfl TL.fin) ?_
      refine DR.stepV [_, _] rfl [(5, _, none)] rfl rfl ⟨⟨rfl, by kernel_rfl⟩, trivial⟩ (fun ext => TL.move hF rfl rfl TL.fin) ?_
      refine DR.stepV [_, _, _] rfl [(21, _, some 0), (22, _, some 1)] rfl rfl ⟨⟨rfl, rfl, rfl⟩, ⟨rfl, rfl, rfl⟩, trivial⟩ (fun ext => TL.indexAddr hF rfl rfl (hx.adi (i := i) (by simp; omega)) (by omega) (by omega) rfl TL.fin) ?_
      refine DR.stepV [_, _, _, _] rfl [(23, _, some 2)] rfl rfl ⟨⟨rfl, rfl, rfl⟩, trivial⟩ (fun ext => TL.load hF rfl (hx.ro.int (i := i) hil) rfl TL.fin) ?_
      refine DR.stepV [_, _, _, _, _] rfl [(24, _, some 3)] rfl rfl ⟨⟨rfl, rfl, rfl⟩, trivial⟩ (fun ext => TL.bin hF rfl rfl rfl rfl TL.fin) ?_
      refine DR.stepV [_, _, _, _, _, _] rfl [(25, _, some 4)] rfl rfl ⟨⟨rfl, rfl, rfl⟩, trivial⟩ (fun ext => TL.move hF rfl rfl TL.fin) ?_
      refine DR.stepV [_, _, _, _, _, _, _] rfl [(1, _, none), (26, _, some 5)] rfl rfl ⟨⟨rfl, by kernel_rfl⟩, ⟨rfl, rfl, rfl⟩, trivial⟩ (fun ext => TL.on rfl rfl rfl (decide_eq_false hlt) <| TL.move hF rfl rfl TL.fin) ?_
      refine DR.stepV [_, _, _, _, _, _, _, _] rfl [(5, _, none), (26, _, some 5)] rfl rfl ⟨⟨rfl, by kernel_rfl⟩, ⟨rfl, rfl, rfl⟩, trivial⟩ (fun ext => TL.on rfl rfl rfl (decide_eq_false hlt) <| TL.move hF rfl rfl TL.fin) ?_
      refine DR.stepV [_, _, _, _, _, _, _, _, _] rfl [(27, _, some 6), (28, _, some 7), (26, _, some 5)] rfl rfl ⟨⟨rfl, rfl, rfl⟩, ⟨rfl, rfl, rfl⟩, ⟨rfl, rfl, rfl⟩, trivial⟩ (fun ext => TL.on rfl rfl rfl (decide_eq_false hlt) <| TL.indexAddr hF rfl rfl (hx.adi (i := i) (by simp; omega)) (by omega) (by omega) rfl TL.fin) ?_
      refine DR.stepV [_, _, _, _, _, _, _, _, _, _] rfl [(29, _, some 8), (26, _, some 5)] rfl rfl ⟨⟨rfl, rfl, rfl⟩, ⟨rfl, rfl, rfl⟩, trivial⟩ (fun ext => TL.on rfl rfl rfl (decide_eq_false hlt) <| TL.load hF rfl (hx.ro.int (i := i) hil) rfl TL.fin) ?_
      refine DR.stepV [_, _, _, _, _, _, _, _, _, _, _] rfl [(0, _, none), (26, _, some 5)] rfl rfl ⟨⟨rfl, by kernel_rfl⟩, ⟨rfl, rfl, rfl⟩, trivial⟩ (fun ext => TL.on rfl rfl rfl (decide_eq_false hlt) <| TL.move hF rfl rfl TL.fin) ?_
      refine DR.stepV [_, _, _, _, _, _, _, _, _, _, _, _] rfl [(31, _, some 10), (26, _, some 5)] rfl rfl ⟨⟨rfl, rfl, rfl⟩, ⟨rfl, rfl, rfl⟩, trivial⟩ (fun ext => TL.on rfl rfl rfl (decide_eq_false hlt) <| TL.shlS hF (a := 1) (s := m) rfl rfl (by omega) (by omega) rfl TL.fin) ?_
      refine DR.done [(32, _), (31, _), (30, _), (29, _), (28, _), (27, _), (26, _), (25, _), (24, _), (23, _), (22, _), (21, _)] [_, _] mixed (by kernel_rfl) (by kernel_rfl) (by kernel_rfl) rfl rfl ?_
      refine TL.on rfl rfl rfl (decide_eq_false hlt) ?_
      refine TL.bin hF rfl rfl rfl rfl ?_
      refine TL.pickF hF rfl (decide_eq_false hlt) rfl rfl ?_
      refine TL.nil ?_
      refine TQ.then_n ?_
      refine T.cond_d rfl (fun ht34 => ?_) (fun ht34 => ?_)
      ·refine T.seq ?_
       refine T.region ?_
       refine TL.assign hF rfl rfl ?_
       refine TL.nil ?_
       refine TQ.then_n ?_
       refine T.ret ?_
       refine TQ.then_r ?_
       refine TQ.block_r ?_
       refine TQ.then_r ?_
       refine TQ.then_r ?_
       refine TQ.block_r ?_
       refine TQ.then_r ?_
       refine TQ.rets [4] _ rfl rfl rfl ?_
       have e : chkL m [] l = 2 := by rw [hinv, hdr]; unfold chkL; rw [if_neg (by omega)]
       exact ⟨by unfold checkE; rw [if_neg (by omega), if_neg (by omega), Int.toNat_natCast, e]; rfl, rfl⟩
      ·refine T.skip ?_
       refine TQ.then_n ?_
       refine T.seq ?_
       refine T.draw ?_
       refine DR.stepV [_] rfl [(1, _, none)] rfl rfl ⟨⟨rfl, by kernel_rfl⟩, trivial⟩ (fun ext => TL.move hF rfl rfl TL.fin) ?_
       refine DR.stepV [_, _] rfl [(5, _, none)] rfl rfl ⟨⟨rfl, by kernel_rfl⟩, trivial⟩ (fun ext => TL.move hF rfl rfl TL.fin) ?_
       refine DR.stepV [_, _, _] rfl [(35, _, some 0), (36, _, some 1)] rfl rfl ⟨⟨rfl, rfl, rfl⟩, ⟨rfl, rfl, rfl⟩, trivial⟩ (fun ext => TL.slice hF (i := 0) (j := i) rfl rfl rfl (by omega) (by omega) rfl TL.fin) ?_
       refine DR.stepV [_, _, _, _] rfl [(1, _, none)] rfl rfl ⟨⟨rfl, by kernel_rfl⟩, trivial⟩ (fun ext => TL.move hF rfl rfl TL.fin) ?_
       refine DR.stepV [_, _, _, _, _] rfl [(5, _, none)] rfl rfl ⟨⟨rfl, by kernel_rfl⟩, trivial⟩ (fun ext => TL.move hF rfl rfl TL.fin) ?_
       refine DR.stepV [_, _, _, _, _, _] rfl [(38, _, some 3), (39, _, some 4)] rfl rfl ⟨⟨rfl, rfl, rfl⟩, ⟨rfl, rfl, rfl⟩, trivial⟩ (fun ext => TL.indexAddr hF rfl rfl (hx.adi (i := i) (by simp; omega)) (by omega) (by omega) rfl TL.fin) ?_
       refine DR.stepV [_, _, _, _, _, _, _] rfl [(40, _, some 5)] rfl rfl ⟨⟨rfl, rfl, rfl⟩, trivial⟩ (fun ext => TL.load hF rfl (hx.ro.int (i := i) hil) rfl TL.fin) ?_
       refine DR.done [(41, _), (40, _), (39, _), (38, _), (37, _), (36, _), (35, _)] [_] mixed (by kernel_rfl) (by kernel_rfl) (by kernel_rfl) rfl rfl ?_
       refine TL.callV hF (has_head l[i] hx (by omega) hc (by omega)) rfl rfl ?_
       refine TL.nil ?_
       refine TQ.then_n ?_
       refine T.cond_d rfl (fun ht42 => ?_) (fun ht42 => ?_)
       ·refine T.seq ?_
        refine T.region ?_
        refine TL.assign hF rfl rfl ?_
        refine TL.nil ?_
        refine TQ.then_n ?_
        refine T.ret ?_
        refine TQ.block_r ?_
        refine TQ.then_r ?_
        refine TQ.then_r ?_
        refine TQ.block_r ?_
        refine TQ.then_r ?_
        refine TQ.rets [4] _ rfl rfl rfl ?_
        have e : chkL m [] l = 5 := by rw [hinv, hdr]; unfold chkL; rw [if_pos ⟨by omega, by omega⟩, if_pos ht42]
        exact ⟨by unfold checkE; rw [if_neg (by omega), if_neg (by omega), Int.toNat_natCast, e]; rfl, rfl⟩
       ·refine T.skip ?_
        refine TQ.block_n ?_
        refine TQ.then_n ?_
        refine T.region ?_
        refine TL.move hF rfl rfl ?_
        refine TL.add hF rfl rfl (by omega) (by omega) rfl ?_
        refine TL.assign hF rfl rfl ?_
        refine TL.nil ?_
        refine TQ.round (i + 1) ⟨by omega, ?_⟩ (by omega) ⟨rfl, rfl, rfl, rfl, trivial⟩ rfl
        rw [hinv, hdr]
        conv => lhs; unfold chkL
        rw [if_pos ⟨by omega, by omega⟩, if_neg ht42, List.take_succ_eq_append_getElem hil]
    ·refine T.exit ?_
     refine TQ.then_x ?_
     refine TQ.then_x ?_
     refine TQ.block_x ?_
     refine TQ.then_n ?_
     refine T.seq ?_
     refine T.region ?_
     refine TL.assign hF rfl rfl ?_
     refine TL.nil ?_
     refine TQ.then_n ?_
     refine T.ret ?_
     refine TQ.rets [4] _ rfl rfl rfl ?_
     have e : chkL m [] l = 0 := by rw [hinv, List.drop_of_length_le (by omega)]; rfl
     exact ⟨by unfold checkE; rw [if_neg (by omega), if_neg (by omega), Int.toNat_natCast, e]; rfl, rfl⟩
def fewestS (cols : Int) (l : List Int) : Int × Int := if checkE cols l = 0 then (fewN l, 0) else (0, checkE cols l)
set_option maxHeartbeats 2000000 in
theorem Fewest_ref {a : Option Addr} {l : List Int} {c : Nat} (cols : Int) (hx : Row S w0 [] a (ints l)) (hl : l.length < 2 ^ 63) (hc : l.length ≤ c) :
  Rt Tryd.prog 13 [.int .i64 cols, .slice a l.length c].toArray S w0 η (fun v η' => v = .tuple #[.int .i64 (fewestS cols l).1, .int .i64 (fewestS cols l).2] ∧ η' = η) := by
 have hF := open_wide
 refine Rt.of (fn := Tryd.f13) Tryd.func13 rfl rfl ?_
 refine T.seq ?_
 refine T.region ?_
 refine TL.assign hF rfl rfl ?_
 refine TL.assign hF rfl rfl ?_
 refine TL.nil ?_
 refine TQ.then_n ?_
 refine T.seq ?_
 refine T.seq ?_
 refine T.region ?_
 refine TL.move hF rfl rfl ?_
 refine TL.move hF rfl rfl ?_
 refine TL.callV hF (Check_ref cols hx hl hc) rfl rfl ?_
 refine TL.assign hF rfl rfl ?_
 refine TL.nil ?_
 refine TQ.then_n ?_
 refine T.seq ?_
 refine T.region ?_
 refine TL.move hF rfl rfl ?_
 refine TL.bin hF rfl rfl rfl rfl ?_
 refine TL.nil ?_
 refine TQ.then_n ?_
 refine T.cond_d rfl (fun ht11 => ?_) (fun ht11 => ?_)
 ·refine T.seq ?_
  refine T.region ?_
  refine TL.move hF rfl rfl ?_
  refine TL.assign hF rfl rfl ?_
  refine TL.assign hF rfl rfl ?_
  refine TL.nil ?_
  refine TQ.then_n ?_
  refine T.ret ?_
  refine TQ.then_r ?_
  refine TQ.rets [4, 5] _ rfl rfl rfl ?_
  exact ⟨by unfold fewestS; rw [if_neg ht11]; rfl, rfl⟩
 ·refine T.skip ?_
  refine TQ.then_n ?_
  refine T.seq ?_
  refine T.region ?_
  refine TL.move hF rfl rfl ?_
  have hk : checkE cols l = 0 := by omega
  obtain ⟨_, hl24, _, hnd, hsl⟩ := checkE_ok hk
  refine TL.callV hF (few_ref hx (by omega) hsl) rfl rfl ?_
  refine TL.assign hF rfl rfl ?_
  refine TL.assign hF rfl rfl ?_
  refine TL.nil ?_
  refine TQ.then_n ?_
  refine T.ret ?_
  refine TQ.rets [4, 5] _ rfl rfl rfl ?_
  exact ⟨by unfold fewestS; rw [if_pos hk]; rfl, rfl⟩
end Go.Proofs.YtfnalecnnmkgbaaDoor
/- Searches in order, and what their next ones are. -/
namespace Go.Proofs.YtfnalecnnmkgbaaDoor
open Go.Sl
theorem part_lt {a b : Int} (ha : 0 ≤ a) (hb : 0 ≤ b) (h : partI a b = true) : a < b := by
  unfold partI underI at h
  rw [Bool.and_eq_true, decide_eq_true_eq, decide_eq_true_eq] at h
  have h1 : a.toNat &&& b.toNat ≤ b.toNat := Nat.and_le_right
  omega
theorem mem_insR (x y : Int) (l : List Int) : y ∈ insR x l ↔ y = x ∨ y ∈ l := by
  unfold insR
  have h := List.takeWhile_append_dropWhile (p := fun y => decide (y < x)) (l := l)
  conv => rhs; rhs; rw [← h]
  simp only [List.mem_append, List.mem_cons]
  constructor
  · rintro (h | h | h)
    · exact .inr (.inl h)
    · exact .inl h
    · exact .inr (.inr h)
  · rintro (h | h | h)
    · exact .inr (.inl h)
    · exact .inl h
    · exact .inr (.inr h)
theorem mem_foldR (y : Int) : ∀ (l o : List Int), y ∈ l.foldl (fun o x => insR x o) o ↔ y ∈ l ∨ y ∈ o
  | [], o => by simp
  | x :: l, o => by
    rw [List.foldl_cons, mem_foldR y l, mem_insR]
    simp only [List.mem_cons]
    constructor
    · rintro (h | h | h)
      · exact .inl (.inr h)
      · exact .inl (.inl h)
      · exact .inr h
    · rintro ((h | h) | h)
      · exact .inr (.inl h)
      · exact .inl h
      · exact .inr (.inr h)
theorem mem_rising {y : Int} {l : List Int} : y ∈ risingS l ↔ y ∈ l := by unfold risingS; rw [mem_foldR]; simp
abbrev Up (l : List Int) : Prop := l.Pairwise fun a b => a < b
theorem insR_up {x : Int} : ∀ {l : List Int}, Up l → x ∉ l → Up (insR x l)
  | [], _, _ => by simp [insR]
  | y :: l, h, hx => by
    have hc := List.pairwise_cons.1 h
    by_cases hy : y < x
    · have e : insR x (y :: l) = y :: insR x l := by simp [insR, hy]
      rw [e]
      refine List.pairwise_cons.2 ⟨fun z hz => ?_, insR_up hc.2 (fun q => hx (List.mem_cons_of_mem _ q))⟩
      rcases (mem_insR x z l).1 hz with rfl | hz
      · exact hy
      · exact hc.1 z hz
    · have e : insR x (y :: l) = x :: y :: l := by simp [insR, hy]
      rw [e]
      have hxy : x < y := by
        have : x ≠ y := fun q => hx (by rw [q]; exact List.mem_cons_self)
        omega
      refine List.pairwise_cons.2 ⟨fun z hz => ?_, h⟩
      rcases List.mem_cons.1 hz with rfl | hz
      · exact hxy
      · have := hc.1 z hz; omega
theorem foldR_up : ∀ {l o : List Int}, Up o → l.Nodup → (∀ x ∈ l, x ∉ o) → Up (l.foldl (fun o x => insR x o) o)
  | [], _, h, _, _ => h
  | x :: l, o, h, hn, hd => by
    rw [List.foldl_cons]
    have hn2 := List.nodup_cons.1 hn
    refine foldR_up (insR_up h (hd x List.mem_cons_self)) hn2.2 fun y hy hm => ?_
    rcases (mem_insR x y o).1 hm with rfl | hm
    · exact hn2.1 hy
    · exact hd y (List.mem_cons_of_mem _ hy) hm
theorem rising_up {l : List Int} (hn : l.Nodup) : Up (risingS l) := foldR_up List.Pairwise.nil hn (fun _ _ => by simp)
theorem Up.nodup {l : List Int} (h : Up l) : l.Nodup := h.imp fun h e => by omega
theorem up_ext : ∀ {l m : List Int}, Up l → Up m → (∀ x, x ∈ l ↔ x ∈ m) → l = m
  | [], [], _, _, _ => rfl
  | [], y :: m, _, _, h => by have := (h y).2 (by simp); simp at this
  | x :: l, [], _, _, h => by have := (h x).1 (by simp); simp at this
  | x :: l, y :: m, h1, h2, h => by
    have h1 := List.pairwise_cons.1 h1
    have h2 := List.pairwise_cons.1 h2
    have e : x = y := by
      rcases List.mem_cons.1 ((h x).1 (by simp)) with e | e
      · exact e
      · rcases List.mem_cons.1 ((h y).2 (by simp)) with e2 | e2
        · exact e2.symm
        · have := h1.1 y e2; have := h2.1 x e; omega
    subst e
    rw [up_ext h1.2 h2.2 (fun z => ?_)]
    constructor
    · intro hz
      rcases List.mem_cons.1 ((h z).1 (List.mem_cons_of_mem _ hz)) with e | e
      · subst e; have := h1.1 z hz; omega
      · exact e
    · intro hz
      rcases List.mem_cons.1 ((h z).2 (List.mem_cons_of_mem _ hz)) with e | e
      · subst e; have := h2.1 z hz; omega
      · exact e
theorem rising_self {l : List Int} (h : Up l) : risingS l = l := up_ext (rising_up h.nodup) h fun _ => mem_rising
/-- A next one is one of those that there are, and one of which this one is a part. -/
theorem nextsG_ok : ∀ {l av : List Int} {left : Int} {j : Nat} (h : j < l.length), (nextsG l av left).getD j 0 = 0 ∨ ((nextsG l av left).getD j 0 ∈ av ∧ partI l[j] ((nextsG l av left).getD j 0) = true)
  | f :: r, av, left, 0, _ => by
    unfold nextsG
    split
    · rename_i t ht
      right
      have h1 := List.find?_some ht
      unfold okP at h1
      rw [Bool.and_eq_true] at h1
      exact ⟨List.mem_of_find?_eq_some ht, h1.1⟩
    · exact .inl rfl
  | f :: r, av, left, j + 1, h => by
    unfold nextsG
    split
    · rename_i t ht
      rcases nextsG_ok (l := r) (av := wo av t) (left := left - 1) (j := j) (by simpa using h) with q | ⟨q1, q2⟩
      · exact .inl q
      · exact .inr ⟨(List.mem_filter.1 q1).1, q2⟩
    · rcases nextsG_ok (l := r) (av := av) (left := left) (j := j) (by simpa using h) with q | ⟨q1, q2⟩
      · exact .inl q
      · exact .inr ⟨q1, q2⟩
/-- The place of a next one is a later one. -/
theorem next_at {l : List Int} (hu : Up l) (hs : Sets l) {j : Nat} (hj : j < l.length) (h0 : 0 < (nextsS l).getD j 0) : ∃ p : Nat, whereI l ((nextsS l).getD j 0) = (p : Int) ∧ j < p ∧ p < l.length := by
  rcases nextsG_ok (l := l) (av := l) (left := (matchN l l : Nat)) hj with q | ⟨q1, q2⟩
  · unfold nextsS at h0; omega
  · have q1 : (nextsS l).getD j 0 ∈ l := q1
    have q2 : partI l[j] ((nextsS l).getD j 0) = true := q2
    obtain ⟨p, hp, he⟩ := List.getElem_of_mem q1
    have h1 := part_lt (hs _ (List.getElem_mem hj)).1 (hs _ q1).1 q2
    refine ⟨p, whereI_at hp he (fun x hx e => ?_), ?_, hp⟩
    · obtain ⟨i, hi, hxe⟩ := List.mem_take_iff_getElem.1 hx
      have hlt := List.pairwise_iff_getElem.1 hu i p (by omega) hp (by omega)
      omega
    · refine Nat.lt_of_not_le fun hle => ?_
      rcases Nat.lt_or_eq_of_le hle with h2 | h2
      · have hlt := List.pairwise_iff_getElem.1 hu p j hp hj h2; omega
      · subst h2; omega
/-- What comes behind a search in its chain. -/
def chainV (l nx : List Int) : Nat → Nat → List Int
  | 0, _ => []
  | f + 1, j => if 0 < nx.getD j 0 then nx.getD j 0 :: chainV l nx f (whereI l (nx.getD j 0)).toNat else []
def startB (l nx : List Int) (i : Nat) : Bool := !decide (l.getD i 0 ∈ nx)
def chainN (l nx : List Int) (k : Nat) : List (List Int) := ((List.range k).filter (startB l nx)).map fun i => l.getD i 0 :: chainV l nx l.length i
def chainsR (l : List Int) : List (List Int) := chainN l (nextsS l) l.length
theorem chainN_succ {l nx : List Int} {k : Nat} : chainN l nx (k + 1) = chainN l nx k ++ if startB l nx k = true then [l.getD k 0 :: chainV l nx l.length k] else [] := by
  unfold chainN
  rw [List.range_succ, List.filter_append, List.map_append]
  congr 1
  simp only [List.filter_cons, List.filter_nil]
  split <;> rfl
theorem chainN_len (l nx : List Int) (k : Nat) : (chainN l nx k).length ≤ k := by unfold chainN; rw [List.length_map]; exact Nat.le_trans (List.length_filter_le _ _) (by simp)
def chainsS (cols : Int) (l : List Int) : List (List Int) × Int := if checkE cols l = 0 then (chainsR (risingS l), 0) else ([], checkE cols l)
end Go.Proofs.YtfnalecnnmkgbaaDoor
/- Chains, by the specification. -/
namespace Go.Proofs.YtfnalecnnmkgbaaDoor
open Go.Sl
variable {S : Nat → Prop} {w0 : World} {η : Heap}
def ResL (S : Nat → Prop) (w0 : World) (r : List (List Int) × Int) (η : Heap) (v : Value) (η' : Heap) : Prop := ∃ a cap ps segs, v = .tuple #[.slice a ps.length cap, .int .i64 r.2] ∧ tx ps = r.1 ∧ LL S w0 segs a ps ∧ η' = segs ++ η
structure RisOk (L : List Int) : Prop where
 up : Up L
 pos : ∀ x ∈ L, 1 ≤ x ∧ x < 1024
 le : L.length ≤ 24
theorem ris_ok {cols : Int} {l : List Int} (h : checkE cols l = 0) : RisOk (risingS l) := by
 obtain ⟨hc, hl, hr, hn, hs⟩ := checkE_ok h
 exact ⟨rising_up hn, fun x hx => by
  have h1 := hr x (mem_rising.1 hx)
  have h2 := hs x (mem_rising.1 hx)
  omega, by rw [risingS_len]; exact hl⟩
theorem RisOk.sets {L : List Int} (h : RisOk L) : Sets L := pos_sets h.pos
theorem nextsS_len (l : List Int) : (nextsS l).length = l.length := nextsG_len _ _ _
theorem osl_one {b : Nat} {x : Int} : OSl 3 1 (.slice (some ⟨b, 0, none⟩) [x].length 1) [x].length (ints [x]) [(b, .cells #[.int .i64 x] 3 (0, 0))] := ⟨by simp [ints], .inr ⟨b, 1, #[.int .i64 x], rfl, rfl, Nat.le_refl _, by simp, by simp [ints]⟩⟩
set_option maxHeartbeats 2000000 in
theorem Chains_ref {a : Option Addr} {l : List Int} {c : Nat} (cols : Int) (hx : Row S w0 [] a (ints l)) (hl : l.length < 2 ^ 63) (hc : l.length ≤ c) :
  Rt Tryd.prog 15 [.int .i64 cols, .slice a l.length c].toArray S w0 η (ResL S w0 (chainsS cols l) η) := by
 have hF := open_wide
 refine Rt.of (fn := Tryd.f15) Tryd.func15 rfl rfl ?_
 refine T.seq ?_
 refine T.region ?_
 refine TL.assign hF rfl rfl ?_
 refine TL.assign hF rfl rfl ?_
 refine TL.nil ?_
 refine TQ.then_n ?_
 refine T.seq ?_
 refine T.seq ?_
 refine T.region ?_
 refine TL.move hF rfl rfl ?_
 refine TL.move hF rfl rfl ?_
 refine TL.callV hF (Check_ref cols hx hl hc) rfl rfl ?_
 refine TL.assign hF rfl rfl ?_
 refine TL.nil ?_
 refine TQ.then_n ?_
 refine T.seq ?_
 refine T.region ?_
 refine TL.move hF rfl rfl ?_
 refine TL.bin hF rfl rfl rfl rfl ?_
 refine TL.nil ?_
 refine TQ.then_n ?_
 refine T.cond_d rfl (fun ht17 => ?_) (fun ht17 => ?_)
 ·refine T.seq ?_
  refine T.region ?_
  refine TL.move hF rfl rfl ?_
  refine TL.assign hF rfl rfl ?_
  refine TL.assign hF rfl rfl ?_
  refine TL.nil ?_
  refine TQ.then_n ?_
  refine T.ret ?_
  refine TQ.then_r ?_
  refine TQ.rets [4, 5] _ rfl rfl rfl ?_
  exact ⟨none, 0, [], [], by unfold chainsS; rw [if_neg ht17]; rfl, by unfold chainsS; rw [if_neg ht17]; rfl, LL.none, rfl⟩
 ·refine T.skip ?_
  refine TQ.then_n ?_
  refine T.seq ?_
  refine T.region ?_
  refine TL.move hF rfl rfl ?_
  have hk : checkE cols l = 0 := by omega
  have hRis := ris_ok hk
  obtain ⟨_, hl24, _, _, _⟩ := checkE_ok hk
  refine TL.call hF (rising_ref hx (by omega)) rfl rfl ?_
  rintro _ _ ⟨ra, rc, rg, rfl, hro, rfl⟩
  refine TL.freeze [rg] rfl (fun S1 w1 hz1 => ?_)
  have hrr : Row S1 w1 [] ra (ints (risingS l)) := (hro.row (η := [rg]) List.mem_cons_self).frz hz1
  have hrl := risingS_len l
  have hcap := osl_cap hro
  have hchE : chainsS cols l = (chainsR (risingS l), 0) := by unfold chainsS; rw [if_pos hk]
  rw [hchE]
  rw [← hrl] at hcap ⊢
  clear hro hrl hchE
  generalize risingS l = L at hRis hrr hcap ⊢
  have hL24 := hRis.le
  have hsL := hRis.sets
  refine TL.assign hF rfl rfl ?_
  refine TL.nil ?_
  refine TQ.then_n ?_
  refine T.seq ?_
  refine T.region ?_
  refine TL.move hF rfl rfl ?_
  refine TL.call hF (nexts_ref hrr (by omega) hcap hRis.pos) rfl rfl ?_
  rintro _ _ ⟨nb, lg, rfl, rfl⟩
  refine TL.freeze [[(nb, Obj.cells (ints (nextsS L)).toArray 3 (0, 0))], lg] rfl (fun S2 w2 hz2 => ?_)
  have hnr : Row S2 w2 [] (some ⟨nb, 0, none⟩) (ints (nextsS L)) := (row_own (η := [[(nb, Obj.cells (ints (nextsS L)).toArray 3 (0, 0))], lg]) (cs := ints (nextsS L)) (e := 3) List.mem_cons_self).frz hz2
  replace hrr := hrr.old hz2
  have hnl := nextsS_len L
  refine TL.assign hF rfl rfl ?_
  refine TL.nil ?_
  refine TQ.then_n ?_
  refine T.seq ?_
  refine T.region ?_
  refine TL.assign hF rfl rfl ?_
  refine TL.nil ?_
  refine TQ.then_n ?_
  refine T.seq ?_
  refine T.seq ?_
  refine T.region ?_
  refine TL.assign hF rfl rfl ?_
  refine TL.nil ?_
  refine TQ.then_n ?_
  refine T.block ?_
  refine T.hnil ?_
  refine T.loop (ι := Nat × Option Addr × Nat × List (HL × Seg) × Seg) (fun z => match z with | (i, oa, oc, outs, og) => i ≤ L.length ∧ OL 22 (.slice oa outs.length oc) outs og ∧ outs.map (fun t => t.1.2.1) = chainN L (nextsS L) i ∧ ∀ t ∈ outs, t.1.2.1.length ≤ 25) (fun z => match z with | (i, oa, oc, outs, og) => [(4, .slice none 0 0), (5, .int .i64 0), (7, .slice ra L.length rc), (8, .slice (some ⟨nb, 0, none⟩) L.length L.length), (9, .slice oa outs.length oc), (10, .int .i64 (i : Int))]) (fun z => match z with | (i, oa, oc, outs, og) => og :: (outs.reverse.map (·.2) ++ η)) (fun z => L.length - z.1) (0, none, 0, [], []) ⟨Nat.zero_le _, ⟨OSl.nil _ _, fun t ht => by simp at ht⟩, rfl, fun t ht => by simp at ht⟩ ⟨rfl, rfl, rfl, rfl, rfl, rfl, trivial⟩ rfl ?_
  rintro ⟨i, oa, oc, outs, og⟩ ⟨hi, hol, hto, hso⟩
  refine T.seq ?_
  refine T.seq ?_
  refine T.region ?_
  refine TL.move hF rfl rfl ?_
  refine TL.move hF rfl rfl ?_
  refine TL.len hF rfl rfl ?_
  refine TL.bin hF rfl rfl rfl rfl ?_
  refine TL.nil ?_
  refine TQ.then_n ?_
  first | refine T.cond_d rfl (fun ht26 => ?_) (fun ht26 => ?_) | refine T.cond _ rfl (fun ht26 => ?_) (fun ht26 => ?_)
  ·refine T.skip ?_
   refine TQ.then_n ?_
   refine T.seq ?_
   refine T.block ?_
   refine T.seq ?_
   refine T.seq ?_
   refine T.region ?_
   refine TL.move hF rfl rfl ?_
   refine TL.move hF rfl rfl ?_
   refine TL.move hF rfl rfl ?_
   have hil : i < L.length := by have h : (i : Int) < (L.length : Int) := ht26; omega
   refine TL.indexAddr hF rfl rfl (hrr.adi (i := i) (by simp; omega)) (by omega) (by omega) rfl ?_
   refine TL.load hF rfl (hrr.ro.int (i := i) hil) rfl ?_
   have hhas := has_fn (S := S2) (w0 := w2) (η := og :: (outs.reverse.map (·.2) ++ η)) (c := L.length) L[i] hnr.ro (by omega)
   rw [hnl] at hhas
   refine TL.callV hF hhas rfl rfl ?_
   refine TL.nil ?_
   refine TQ.then_n ?_
   refine T.cond_d rfl (fun ht34 => ?_) (fun ht34 => ?_)
   ·refine T.exit ?_
    refine TQ.then_x ?_
    refine TQ.block_x ?_
    refine TQ.then_n ?_
    refine T.region ?_
    refine TL.move hF rfl rfl ?_
    refine TL.add hF rfl rfl (by omega) (by omega) rfl ?_
    refine TL.assign hF rfl rfl ?_
    refine TL.nil ?_
    refine TQ.round (i + 1, oa, oc, outs, og) ⟨by omega, hol, ?_, hso⟩ (by dsimp only; omega) ⟨rfl, rfl, rfl, rfl, rfl, rfl, trivial⟩ rfl
    rw [hto, chainN_succ, if_neg (by unfold startB; rw [List.getD_eq_getElem?_getD, List.getElem?_eq_getElem hil]; simpa using ht34), List.append_nil]
   ·refine T.skip ?_
    refine TQ.then_n ?_
    refine T.seq ?_
    refine T.region ?_
    refine TL.move hF rfl rfl ?_
    refine TL.move hF rfl rfl ?_
    refine TL.indexAddr hF rfl rfl (hrr.adi (i := i) (by simp; omega)) (by omega) (by omega) rfl ?_
    refine TL.load hF rfl (hrr.ro.int (i := i) hil) rfl ?_
    refine TL.buildSlice hF rfl (cs := #[.int .i64 L[i]]) (e := 3) (fun w => by kernel_rfl) rfl (fun b39 => ?_)
    refine TL.assign hF rfl rfl ?_
    refine TL.nil ?_
    refine TQ.then_n ?_
    refine T.seq ?_
    refine T.seq ?_
    refine T.region ?_
    refine TL.move hF rfl rfl ?_
    refine TL.assign hF rfl rfl ?_
    refine TL.nil ?_
    refine TQ.then_n ?_
    refine T.block ?_
    refine T.loop (ι := Nat × List Int × Nat × Option Addr × Nat × Seg) (fun z => match z with | (j, dn, fu, ca, cc, cg) => j < L.length ∧ L[i] :: chainV L (nextsS L) L.length i = dn ++ chainV L (nextsS L) fu j ∧ L.length - j ≤ fu ∧ dn.length + fu ≤ L.length + 1 ∧ OSl 3 1 (.slice ca dn.length cc) dn.length (ints dn) cg) (fun z => match z with | (j, dn, fu, ca, cc, cg) => [(4, .slice none 0 0), (5, .int .i64 0), (7, .slice ra L.length rc), (8, .slice (some ⟨nb, 0, none⟩) L.length L.length), (9, .slice oa outs.length oc), (10, .int .i64 (i : Int)), (11, .slice ca dn.length cc), (12, .int .i64 (j : Int))]) (fun z => match z with | (j, dn, fu, ca, cc, cg) => cg :: og :: (outs.reverse.map (·.2) ++ η)) (fun z => z.2.2.1) (i, [L[i]], L.length, some ⟨b39, 0, none⟩, 1, _) ⟨hil, rfl, by omega, by simp; omega, osl_one⟩ ⟨rfl, rfl, rfl, rfl, rfl, rfl, rfl, rfl, trivial⟩ rfl ?_
    rintro ⟨j, dn, fu, ca, cc, cg⟩ ⟨hj, hch, hfu, hlen, hcg⟩
    refine T.seq ?_
    refine T.seq ?_
    refine T.region ?_
    refine TL.move hF rfl rfl ?_
    refine TL.move hF rfl rfl ?_
    refine TL.indexAddr hF rfl rfl (hnr.adi (i := j) (by simp [hnl]; omega)) (by omega) (by omega) rfl ?_
    refine TL.load hF rfl (v := .int .i64 ((nextsS L).getD j 0)) (by rw [List.getD_eq_getElem?_getD, List.getElem?_eq_getElem (by omega)]; exact (hnr.ro.int (i := j) (by omega))) rfl ?_
    refine TL.bin hF rfl rfl rfl rfl ?_
    refine TL.nil ?_
    refine TQ.then_n ?_
    refine T.cond_d rfl (fun ht45 => ?_) (fun ht45 => ?_)
    ·refine T.skip ?_
     refine TQ.then_n ?_
     refine T.seq ?_
     refine T.block ?_
     refine T.region ?_
     refine TL.move hF rfl rfl ?_
     refine TL.move hF rfl rfl ?_
     refine TL.move hF rfl rfl ?_
     refine TL.indexAddr hF rfl rfl (hnr.adi (i := j) (by simp [hnl]; omega)) (by omega) (by omega) rfl ?_
     refine TL.load hF rfl (v := .int .i64 ((nextsS L).getD j 0)) (by rw [List.getD_eq_getElem?_getD, List.getElem?_eq_getElem (by omega)]; exact (hnr.ro.int (i := j) (by omega))) rfl ?_
     refine TL.buildSlice hF rfl (cs := #[.int .i64 ((nextsS L).getD j 0)]) (e := 3) (fun w => by kernel_rfl) rfl (fun b57 => ?_)
     refine TL.append hF 1 rfl rfl rfl hcg (row_own (cs := [.int .i64 ((nextsS L).getD j 0)]) (e := 3) (by simp)).src rfl rfl (by simp [Value.oneCell']) (by omega) (by omega) rfl (fun pa pc pg ph => ?_)
     rw [← ints_app] at ph
     refine TL.assign hF rfl rfl ?_
     refine TL.nil ?_
     refine TQ.block_n ?_
     refine TQ.then_n ?_
     refine T.region ?_
     refine TL.move hF rfl rfl ?_
     refine TL.move hF rfl rfl ?_
     refine TL.move hF rfl rfl ?_
     refine TL.indexAddr hF rfl rfl (hnr.adi (i := j) (by simp [hnl]; omega)) (by omega) (by omega) rfl ?_
     refine TL.load hF rfl (v := .int .i64 ((nextsS L).getD j 0)) (by rw [List.getD_eq_getElem?_getD, List.getElem?_eq_getElem (by omega)]; exact (hnr.ro.int (i := j) (by omega))) rfl ?_
     obtain ⟨p, hp, hjp, hpl⟩ := next_at hRis.up hsL hj ht45
     refine TL.callV hF (place_fn ((nextsS L).getD j 0) hrr.ro (by omega)) rfl rfl ?_
     rw [hp]
     refine TL.assign hF rfl rfl ?_
     refine TL.nil ?_
     obtain ⟨f1, hfe⟩ : ∃ f1, fu = f1 + 1 := ⟨fu - 1, by omega⟩
     have hch2 : L[i] :: chainV L (nextsS L) L.length i = (dn ++ [(nextsS L).getD j 0]) ++ chainV L (nextsS L) f1 p := by
      rw [hch, hfe]
      conv => lhs; unfold chainV
      rw [if_pos ht45, hp, Int.toNat_natCast, List.append_assoc]; rfl
     refine TQ.pop ?_
     refine TQ.round (p, dn ++ [(nextsS L).getD j 0], f1, pa, pc, pg) ⟨hpl, hch2, by omega, by simp; omega, ?_⟩ (by show f1 < fu; omega) ⟨rfl, rfl, rfl, rfl, rfl, rfl, congrArg (fun n : Nat => some (Value.slice pa n pc)) (by simp), rfl, trivial⟩ rfl
     simpa using ph
    ·refine T.exit ?_
     refine TQ.then_x ?_
     refine TQ.then_x ?_
     refine TQ.block_x ?_
     refine TQ.then_n ?_
     refine T.region ?_
     refine TL.move hF rfl rfl ?_
     refine TL.move hF rfl rfl ?_
     have hcn : L[i] :: chainV L (nextsS L) L.length i = dn := by
      rw [hch]
      have e : chainV L (nextsS L) fu j = [] := by
       cases fu with
       | zero => rfl
       | succ f => unfold chainV; rw [if_neg ht45]
      rw [e, List.append_nil]
     have hdl : dn.length ≤ 25 := by omega
     have hool : outs.length ≤ i := by have h1 := congrArg List.length hto; rw [List.length_map] at h1; have h2 := chainN_len L (nextsS L) i; omega
     refine TL.buildSlice hF rfl (cs := #[.slice ca dn.length cc]) (e := 22) (fun w => by kernel_rfl) rfl (fun b61 => ?_)
     refine TL.append hF 2 rfl rfl rfl hol.o (row_own (cs := [.slice ca dn.length cc]) (e := 22) (by simp)).src rfl rfl (by simp [Value.oneCell']) (by omega) (by omega) rfl (fun qa qc qg qh => ?_)
     refine TL.assign hF rfl rfl ?_
     refine TL.nil ?_
     refine TQ.block_n ?_
     refine TQ.then_n ?_
     refine T.region ?_
     refine TL.move hF rfl rfl ?_
     refine TL.add hF rfl rfl (by omega) (by omega) rfl ?_
     refine TL.assign hF rfl rfl ?_
     refine TL.nil ?_
     have e4 : outs.length + 1 = (outs ++ [(((ca, dn, cc) : HL), cg)]).length := by simp
     refine TQ.pick [2, 1] [_, _, _] rfl rfl rfl ?_
     refine TQ.round (i + 1, qa, qc, outs ++ [((ca, dn, cc), cg)], qg) ⟨by omega, ⟨?_, ?_⟩, ?_, ?_⟩ (by dsimp only; omega) ⟨rfl, rfl, rfl, rfl, congrArg (fun n : Nat => some (Value.slice qa n qc)) e4, rfl, trivial⟩ (by simp [pickL])
     ·rw [← e4, List.map_append]; exact qh
     ·intro t ht
      rcases List.mem_append.1 ht with h | h
      ·exact hol.i t h
      ·rw [List.mem_singleton.1 h]; exact hcg
     ·rw [List.map_append, hto, chainN_succ, if_pos (by unfold startB; rw [List.getD_eq_getElem?_getD, List.getElem?_eq_getElem hil]; simpa using ht34)]
      congr 1
      simp only [List.map_cons, List.map_nil]
      rw [← hcn, List.getD_eq_getElem?_getD, List.getElem?_eq_getElem hil]; rfl
     ·intro t ht
      rcases List.mem_append.1 ht with h | h
      ·exact hso t h
      ·rw [List.mem_singleton.1 h]; exact hdl
  ·refine T.exit ?_
   refine TQ.then_x ?_
   refine TQ.then_x ?_
   refine TQ.block_x ?_
   refine TQ.then_n ?_
   refine T.seq ?_
   refine T.region ?_
   refine TL.move hF rfl rfl ?_
   refine TL.assign hF rfl rfl ?_
   refine TL.assign hF rfl rfl ?_
   refine TL.nil ?_
   refine TQ.then_n ?_
   refine T.ret ?_
   have hin : i = L.length := by have h : ¬ (i : Int) < (L.length : Int) := ht26; omega
   subst hin
   refine TQ.thaw hz2 ?_
   refine TQ.thaw hz1 ?_
   refine TQ.rets [4, 5] _ rfl rfl rfl ?_
   refine ⟨oa, oc, outs.map (·.1), [rg] ++ ([[(nb, Obj.cells (ints (nextsS L)).toArray 3 (0, 0))], lg] ++ (og :: outs.reverse.map (·.2))), by rw [List.length_map]; rfl, ?_, hol.ll (by simp) (fun t ht => by simp only [List.mem_append, List.mem_cons, List.mem_map, List.mem_reverse]; right; right; right; exact ⟨t, ht, rfl⟩), by simp⟩
   unfold tx
   rw [List.map_map]; exact hto
end Go.Proofs.YtfnalecnnmkgbaaDoor
