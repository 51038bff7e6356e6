/- The program's web of uses. -/
import Derived.Test.YtdehpaikapbckaaW8
import Derived.Laws.StructEq
namespace Go.Proofs.Ytdehpaikapbckaa
open Go.Sl
variable {S : Nat → Prop} {w0 : World} {η : Heap}
def KU (p : Int × Int) : Value := .agg #[.int .i64 p.1, .int .i64 p.2]
theorem eq76 (a b : Int × Int) (w : World) : (Op.equal 76 (KU a) (KU b)).run Try.prog w = .ok (decide (a = b)) w := by
  have hf : Try.prog.underlying 76 = some (.struct (Try.prog.fieldsOf 76)) := by kernel_rfl
  have hs : Try.prog.stoodInHeld 76 = false := by kernel_rfl
  obtain ⟨f1, f2, h12, h3, h4, h5, h6, h7, h8⟩ : ∃ f1 f2, (Try.prog.fieldsOf 76).toList = [f1, f2] ∧ f1.name ≠ "_" ∧ f2.name ≠ "_" ∧ f1.type = 3 ∧ f2.type = 3 ∧ f1.offset = 0 ∧ f2.offset = 1 := by
    unfold Program.fieldsOf; rw [Try.underlying76]
    exact ⟨_, _, rfl, by decide, by decide, rfl, rfl, rfl, rfl⟩
  have hp : ∀ (xs : Array Value) (o : Nat) (v : Value), xs[o]? = some v → (part 3 xs o).run Try.prog w = .ok v w := by
    intro xs o v h
    simp [part, Ag.eq (P := Try.prog) (t := 3) (b := false), h]
  unfold Op.equal KU
  rw [show Op.maxDepth = 9999 + 1 from rfl, run_equalIn_struct w 9999 76 _ _ hf hs, h12]
  simp only [Op.eqFields, ne_eq, h3, h4, not_false_eq_true, if_true, h5, h6, h7, h8, Sem.run_bind]
  have he : ∀ x y : Int, (Op.equalIn 9999 3 (.int .i64 x) (.int .i64 y)).run Try.prog w = .ok (x == y) w := fun x y => run_equalIn_int w 9998 3 .i64 .i64 x y Try.underlying3
  obtain ⟨a1, a2⟩ := a
  obtain ⟨b1, b2⟩ := b
  rw [hp _ 0 (.int .i64 a1) rfl, Result.andThen_ok, hp _ 0 (.int .i64 b1) rfl, Result.andThen_ok, he, Result.andThen_ok]
  by_cases h : a1 = b1
  · subst h
    simp only [beq_self_eq_true, Bool.not_true, Bool.false_eq_true, if_false, Sem.run_bind]
    rw [hp _ 1 (.int .i64 a2) rfl, Result.andThen_ok, hp _ 1 (.int .i64 b2) rfl, Result.andThen_ok, he, Result.andThen_ok]
    by_cases h2 : a2 = b2
    · subst h2; simp
    · have : (a2 == b2) = false := by simp [h2]
      simp [this, h2]
  · have : (a1 == b1) = false := by simp [h]
    simp [this, h]
instance : MKey Try.prog 76 KU where
  chk k e w := by kernel_rfl
  find k es l w h := by
    have h1 := find_asking (K := KU) (kt := 76) eq76 k es l 0 w h
    have h2 : (Instr.findKey 76 (KU k) es).run Try.prog w = (Instr.findAsking 76 (KU k) es 0).run Try.prog w := by
      have hu : ∃ fs, Try.prog.underlying 76 = some (.struct fs) := ⟨_, Try.underlying76⟩
      obtain ⟨fs, hu⟩ := hu
      have hr : (underlying 76).run Try.prog w = .ok (.struct fs) w := by simp [underlying, hu]
      cases es with
      | nil => simp [Instr.findKey, hr, Instr.findNow, Instr.findAsking]
      | cons e es => simp [Instr.findKey, hr, Instr.findNow, Instr.sameNow]
    rw [h2, h1]; simp
  same k := by simp [KU, Instr.sameBits]
/-- The web, and its map, in memory. -/
abbrev wseg (bw bm : Nat) (n : Int) : Seg := [(bw, .cells #[.int .i64 n, .map (some bm)] 84 (0, 0))]
/-- What the map holds. -/
def WOk (U : Int → Int → Bool → Bool) (m : List ((Int × Int) × Bool)) : Prop := ∀ a b, mget (a, b) m = if U a b false = true then some (U a b true) else none
structure Web (η : Heap) (bw : Nat) (n : Int) (U : Int → Int → Bool → Bool) (m : List ((Int × Int) × Bool)) : Prop where
  ex : ∃ bm es clock, wseg bw bm n ∈ η ∧ [(bm, Obj.map es clock)] ∈ η ∧ MObj KU Value.bool m es clock
  ok : WOk U m
theorem Web.up {η' : Heap} {bw : Nat} {n : Int} {U : Int → Int → Bool → Bool} {m : List ((Int × Int) × Bool)} (h : Web η bw n U m) (hs : ∀ s ∈ η, s ∈ η') : Web η' bw n U m := by
  obtain ⟨bm, es, clock, h1, h2, h3⟩ := h.ex
  exact ⟨⟨bm, es, clock, hs _ h1, hs _ h2, h3⟩, h.ok⟩
theorem own_mem {b : Nat} {cs : Array Value} {e : TypeId} {fz : Nat × Nat} {off : Nat} {v : Value} (h : [(b, Obj.cells cs e fz)] ∈ η) (hc : cs[off]? = some v) : At S w0 η ⟨b, off, none⟩ v := .own _ h cs e fz (by simp) hc rfl

set_option maxHeartbeats 2000000 in
theorem within_fn (h rels : Int) :
    Rt Try.prog 63 [.agg #[.int .i64 h], .int .i64 rels].toArray S w0 η (fun v η' => v = .bool (inR h rels) ∧ η' = η) := by
  have hF := open_wide
  refine Rt.of (fn := Try.f63) Try.func63 rfl rfl ?_
  refine T.seq ?_
  refine T.region ?_
  refine TL.box hF rfl rfl (fun b2 => ?_)
  refine TL.assign hF rfl rfl ?_
  refine TL.nil ?_
  refine TQ.then_n ?_
  refine T.seq ?_
  refine T.region ?_
  refine TL.fieldAddr hF rfl rfl ?_
  refine TL.load hF rfl (by first | exact At.own' (i := 0) rfl rfl | exact At.own' (i := 1) rfl rfl | exact At.own' (i := 2) rfl rfl | exact At.own' (i := 3) rfl rfl | exact At.own' (i := 4) rfl rfl) rfl ?_
  refine TL.bin hF rfl rfl rfl rfl ?_
  refine TL.move hF rfl rfl ?_
  refine TL.gd (t := 8) rfl (fun g1_8 => ?_) (fun g1_8 => ?_)
  · refine TL.on rfl rfl rfl (decide_eq_true g1_8) ?_
    refine TL.fieldAddr hF rfl rfl ?_
    refine TL.on rfl rfl rfl (decide_eq_true g1_8) ?_
    refine TL.load hF rfl (by first | exact At.own' (i := 0) rfl rfl | exact At.own' (i := 1) rfl rfl | exact At.own' (i := 2) rfl rfl | exact At.own' (i := 3) rfl rfl | exact At.own' (i := 4) rfl rfl) rfl ?_
    refine TL.on rfl rfl rfl (decide_eq_true g1_8) ?_
    refine TL.move hF rfl rfl ?_
    refine TL.on rfl rfl rfl (decide_eq_true g1_8) ?_
    refine TL.bin hF rfl rfl rfl rfl ?_
    refine TL.pickT hF rfl (decide_eq_true g1_8) rfl rfl ?_
    refine TL.assign hF rfl rfl ?_
    refine TL.nil ?_
    refine TQ.then_n ?_
    refine T.ret ?_
    refine TQ.pop ?_
    refine TQ.rets [4] _ rfl rfl rfl ?_
    exact ⟨by simp [retVal, inR, g1_8, Int.not_lt.2, *], rfl⟩
  · refine TL.off hF rfl rfl rfl (decide_eq_false g1_8) rfl ?_
    refine TL.off hF rfl rfl rfl (decide_eq_false g1_8) rfl ?_
    refine TL.off hF rfl rfl rfl (decide_eq_false g1_8) rfl ?_
    refine TL.off hF rfl rfl rfl (decide_eq_false g1_8) rfl ?_
    refine TL.pickF hF rfl (decide_eq_false g1_8) rfl rfl ?_
    refine TL.assign hF rfl rfl ?_
    refine TL.nil ?_
    refine TQ.then_n ?_
    refine T.ret ?_
    refine TQ.pop ?_
    refine TQ.rets [4] _ rfl rfl rfl ?_
    exact ⟨by simp [retVal, inR, g1_8, Int.not_lt.2, *], rfl⟩
set_option maxHeartbeats 2000000 in
theorem headClear_fn (h rels : Int) :
    RtE Try.prog 46 [.agg #[.int .i64 h], .int .i64 rels].toArray S w0 η (fun v η' => inR h rels = true ∧ η' = η) (fun ch η' => inR h rels = false ∧ ch = stopV 2 ∧ η' = η) := by
  have hF := open_wide
  refine RtE.of (fn := Try.f46) Try.func46 rfl rfl ?_
  refine T.seq ?_
  refine T.region ?_
  refine TL.box hF rfl rfl (fun b2 => ?_)
  refine TL.nil ?_
  refine TQ.then_n ?_
  refine T.region ?_
  refine TL.loadA hF [.int .i64 h] rfl rfl (own_list (i := 0) rfl) rfl ?_
  refine TL.move hF rfl rfl ?_
  refine TL.callV hF (within_fn h rels) rfl rfl ?_
  refine TL.callE hF (must_fn (inR h rels) 2) rfl rfl ?_ ?_
  · rintro v η' ⟨hi, rfl⟩
    refine TL.nil ?_
    refine TQ.norm ?_
    refine TQ.pop ?_
    exact TQ.retsE [] _ rfl rfl rfl ⟨hi, rfl⟩
  · rintro ch η' ⟨hi, rfl, rfl⟩
    refine TQ.pop ?_
    exact TQ.panicE ⟨hi, rfl, rfl⟩ --stop
set_option maxHeartbeats 2000000 in
theorem any_fn {bw : Nat} {n : Int} {U : Int → Int → Bool → Bool} {m : List ((Int × Int) × Bool)} (hw : Web η bw n U m) (a b : Int) :
    Rt Try.prog 60 [.pointer (some ⟨bw, 0, none⟩), KU (a, b)].toArray S w0 η (fun v η' => v = .bool (U a b false) ∧ η' = η) := by
  have hF := open_wide
  refine Rt.of (fn := Try.f60) Try.func60 rfl rfl ?_
  refine T.seq ?_
  refine T.region ?_
  refine TL.box hF rfl rfl (fun b3 => ?_)
  refine TL.assign hF rfl rfl ?_
  refine TL.nil ?_
  refine TQ.then_n ?_
  refine T.seq ?_
  obtain ⟨bm, es, clock, hw1, hw2, hw3⟩ := hw.ex
  refine T.draw ?_
  refine DR.stepV [_] rfl [(0, _, none)] rfl rfl ⟨⟨rfl, by kernel_rfl⟩, trivial⟩ (fun ext => TL.move hF rfl rfl TL.fin) ?_
  refine DR.stepV [_, _] rfl [(8, _, some 0)] rfl rfl ⟨⟨rfl, rfl, rfl⟩, trivial⟩ (fun ext => TL.nilCheck hF rfl rfl TL.fin) ?_
  refine DR.stepV [_, _, _] rfl [(9, _, some 1)] rfl rfl ⟨⟨rfl, rfl, rfl⟩, trivial⟩ (fun ext => TL.fieldAddr hF rfl rfl TL.fin) ?_
  refine DR.stepV [_, _, _, _] rfl [(10, _, some 2)] rfl rfl ⟨⟨rfl, rfl, rfl⟩, trivial⟩ (fun ext => TL.load hF rfl (own_mem (List.mem_cons_of_mem _ hw1) rfl) rfl TL.fin) ?_
  refine DR.stepV [_, _, _, _, _] rfl [(3, _, none)] rfl rfl ⟨⟨rfl, by kernel_rfl⟩, trivial⟩ (fun ext => TL.loadA hF [.int .i64 a, .int .i64 b] rfl rfl (own_list (i := 0) rfl) rfl TL.fin) ?_
  refine DR.stepV [_, _, _, _, _, _] rfl [(11, _, some 3), (12, _, some 4)] rfl rfl ⟨⟨rfl, rfl, rfl⟩, ⟨rfl, rfl, rfl⟩, trivial⟩ (fun ext => TL.lookupOkB hF (K := KU) (a, b) rfl rfl (List.mem_cons_of_mem _ hw2) hw3 rfl TL.fin) ?_
  refine DR.stepV [_, _, _, _, _, _, _] rfl [(13, _, some 5)] rfl rfl ⟨⟨rfl, rfl, rfl⟩, trivial⟩ (fun ext => TL.move hF rfl rfl TL.fin) ?_
  refine DR.stepV [_, _, _, _, _, _, _, _] rfl [(7, _, some 6)] rfl rfl ⟨⟨rfl, rfl, rfl⟩, trivial⟩ (fun ext => TL.extract hF rfl rfl rfl TL.fin) ?_
  refine DR.stepV [_, _, _, _, _, _, _, _, _] rfl [(7, _, some 6)] rfl rfl ⟨⟨rfl, rfl, rfl⟩, trivial⟩ (fun ext => TL.extract hF rfl rfl rfl TL.fin) ?_
  refine DR.stepV [_, _, _, _, _, _, _, _, _, _] rfl [(14, _, some 7)] rfl rfl ⟨⟨rfl, rfl, rfl⟩, trivial⟩ (fun ext => TL.assign hF rfl rfl TL.fin) ?_
  refine DR.done [(5, _), (15, _), (14, _), (7, _), (13, _), (12, _), (11, _), (10, _), (9, _), (8, _)] [_] mixed (by kernel_rfl) (by kernel_rfl) (by kernel_rfl) rfl rfl ?_
  refine TL.assign hF rfl rfl ?_
  refine TL.nil ?_
  refine TQ.then_n ?_
  refine T.seq ?_
  refine T.region ?_
  refine TL.move hF rfl rfl ?_
  refine TL.assign hF rfl rfl ?_
  refine TL.nil ?_
  refine TQ.then_n ?_
  refine T.ret ?_
  refine TQ.pop ?_
  refine TQ.rets [4] _ rfl rfl rfl ?_
  exact ⟨by have := hw.ok a b; simp only [retVal]; rw [this]; cases U a b false <;> rfl, rfl⟩
set_option maxHeartbeats 2000000 in
theorem denial_fn {bw : Nat} {n : Int} {U : Int → Int → Bool → Bool} {m : List ((Int × Int) × Bool)} (hw : Web η bw n U m) (hU : ∀ a b, U a b true = true → U a b false = true) (a b : Int) :
    Rt Try.prog 61 [.pointer (some ⟨bw, 0, none⟩), KU (a, b)].toArray S w0 η (fun v η' => v = .bool (U a b true) ∧ η' = η) := by
  have hF := open_wide
  refine Rt.of (fn := Try.f61) Try.func61 rfl rfl ?_
  refine T.seq ?_
  refine T.region ?_
  refine TL.box hF rfl rfl (fun b3 => ?_)
  refine TL.assign hF rfl rfl ?_
  refine TL.nil ?_
  refine TQ.then_n ?_
  refine T.seq ?_
  obtain ⟨bm, es, clock, hw1, hw2, hw3⟩ := hw.ex
  refine T.draw ?_
  refine DR.stepV [_] rfl [(0, _, none)] rfl rfl ⟨⟨rfl, by kernel_rfl⟩, trivial⟩ (fun ext => TL.move hF rfl rfl TL.fin) ?_
  refine DR.stepV [_, _] rfl [(5, _, some 0)] rfl rfl ⟨⟨rfl, rfl, rfl⟩, trivial⟩ (fun ext => TL.nilCheck hF rfl rfl TL.fin) ?_
  refine DR.stepV [_, _, _] rfl [(6, _, some 1)] rfl rfl ⟨⟨rfl, rfl, rfl⟩, trivial⟩ (fun ext => TL.fieldAddr hF rfl rfl TL.fin) ?_
  refine DR.stepV [_, _, _, _] rfl [(7, _, some 2)] rfl rfl ⟨⟨rfl, rfl, rfl⟩, trivial⟩ (fun ext => TL.load hF rfl (own_mem (List.mem_cons_of_mem _ hw1) rfl) rfl TL.fin) ?_
  refine DR.stepV [_, _, _, _, _] rfl [(3, _, none)] rfl rfl ⟨⟨rfl, by kernel_rfl⟩, trivial⟩ (fun ext => TL.loadA hF [.int .i64 a, .int .i64 b] rfl rfl (own_list (i := 0) rfl) rfl TL.fin) ?_
  refine DR.done [(9, _), (8, _), (7, _), (6, _), (5, _)] [_, _] mixed (by kernel_rfl) (by kernel_rfl) (by kernel_rfl) rfl rfl ?_
  refine TL.lookupB hF (K := KU) (a, b) rfl rfl (List.mem_cons_of_mem _ hw2) hw3 rfl ?_
  refine TL.assign hF rfl rfl ?_
  refine TL.nil ?_
  refine TQ.then_n ?_
  refine T.ret ?_
  refine TQ.pop ?_
  refine TQ.rets [4] _ rfl rfl rfl ?_
  exact ⟨by have := hw.ok a b; have h2 := hU a b; simp only [retVal]; rw [this]; revert h2; cases U a b false <;> cases U a b true <;> simp, rfl⟩
end Go.Proofs.Ytdehpaikapbckaa
