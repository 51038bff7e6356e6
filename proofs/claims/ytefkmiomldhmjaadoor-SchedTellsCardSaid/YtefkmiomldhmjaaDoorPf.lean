/- Several texts in one. -/
import Derived.Test.YtefkmiomldhmjaaDoorPe
import Derived.Test.YtefkmiomldhmjaaDoorRows
import Derived.LaidMore
import Derived.OpenShut
import Derived.Deep.Strs
import Derived.Stop.Joined
/- A run, by the reference. -/
namespace Go.Proofs.YtefkmiomldhmjaaDoor
open Go.Sl
variable {S : Nat → Prop} {w0 : World} {η : Heap}
theorem eq53 (x y : DoneD) (w : World) : (Op.equal 53 (.agg x.cells.toArray) (.agg y.cells.toArray)).run Tryd.prog w = .ok (decide (x = y)) w := by
  have hf : Tryd.prog.underlying 53 = some (.struct (Tryd.prog.fieldsOf 53)) := by kernel_rfl
  have hs : Tryd.prog.stoodInHeld 53 = false := by kernel_rfl
  obtain ⟨f1, f2, f3, f4, h12, n1, n2, n3, n4, t1, t2, t3, t4, o1, o2, o3, o4⟩ : ∃ f1 f2 f3 f4, (Tryd.prog.fieldsOf 53).toList = [f1, f2, f3, f4] ∧ f1.name ≠ "_" ∧ f2.name ≠ "_" ∧ f3.name ≠ "_" ∧ f4.name ≠ "_" ∧ f1.type = 3 ∧ f2.type = 3 ∧ f3.type = 3 ∧ f4.type = 4 ∧ f1.offset = 0 ∧ f2.offset = 1 ∧ f3.offset = 2 ∧ f4.offset = 3 := by
    unfold Program.fieldsOf; rw [show Tryd.prog.underlying 53 = Tryd.prog.underlying 52 from by kernel_rfl, Tryd.underlying52]
    exact ⟨_, _, _, _, rfl, by decide, by decide, by decide, by decide, rfl, rfl, rfl, rfl, rfl, rfl, rfl, rfl⟩
  have hp : ∀ (xs : Array Value) (o : Nat) (v : Value), xs[o]? = some v → (part 3 xs o).run Tryd.prog w = .ok v w := by
    intro xs o v h
    simp [part, Ag.eq (P := Tryd.prog) (t := 3) (b := false), h]
  have hp4 : ∀ (xs : Array Value) (o : Nat) (v : Value), xs[o]? = some v → (part 4 xs o).run Tryd.prog w = .ok v w := by
    intro xs o v h
    simp [part, Ag.eq (P := Tryd.prog) (t := 4) (b := false), h]
  obtain ⟨a1, a2, a3, a4⟩ := x
  obtain ⟨b1, b2, b3, b4⟩ := y
  unfold Op.equal
  rw [show Op.maxDepth = 9999 + 1 from rfl, run_equalIn_struct w 9999 53 _ _ hf hs, h12]
  have hall : AllF Tryd.prog w 9999 (DoneD.cells ⟨a1, a2, a3, a4⟩).toArray (DoneD.cells ⟨b1, b2, b3, b4⟩).toArray [f1, f2, f3, f4] [(.int .i64 a1, .int .i64 b1, a1 == b1), (.int .i64 a2, .int .i64 b2, a2 == b2), (.int .i64 a3, .int .i64 b3, a3 == b3), (.bool a4, .bool b4, a4 == b4)] :=
    ⟨⟨n1, by rw [o1, t1]; exact hp _ 0 _ rfl, by rw [o1, t1]; exact hp _ 0 _ rfl, by rw [t1]; exact run_equalIn_int w 9998 3 .i64 .i64 a1 b1 Tryd.underlying3⟩,
     ⟨n2, by rw [o2, t2]; exact hp _ 1 _ rfl, by rw [o2, t2]; exact hp _ 1 _ rfl, by rw [t2]; exact run_equalIn_int w 9998 3 .i64 .i64 a2 b2 Tryd.underlying3⟩,
     ⟨n3, by rw [o3, t3]; exact hp _ 2 _ rfl, by rw [o3, t3]; exact hp _ 2 _ rfl, by rw [t3]; exact run_equalIn_int w 9998 3 .i64 .i64 a3 b3 Tryd.underlying3⟩,
     ⟨n4, by rw [o4, t4]; exact hp4 _ 3 _ rfl, by rw [o4, t4]; exact hp4 _ 3 _ rfl, by rw [t4]; exact run_equalIn_bool w 9998 4 a4 b4 Tryd.underlying4⟩, trivial⟩
  rw [run_eqFields_all _ _ hall]
  have e : (List.all [(Value.int .i64 a1, Value.int .i64 b1, a1 == b1), (Value.int .i64 a2, Value.int .i64 b2, a2 == b2), (Value.int .i64 a3, Value.int .i64 b3, a3 == b3), (Value.bool a4, Value.bool b4, a4 == b4)] fun p => p.2.2) = decide (DoneD.mk a1 a2 a3 a4 = DoneD.mk b1 b2 b3 b4) := by
    rw [Bool.eq_iff_iff]; simp
  rw [e]

set_option maxHeartbeats 2000000 in
theorem Same_fn {a b : Option Addr} {xs ys : List DoneD} {ca cb : Nat} (hx : Row S w0 η a (xs.flatMap DoneD.cells)) (hy : Row S w0 η b (ys.flatMap DoneD.cells)) (hl : xs.length < 2 ^ 63) :
    Rt Tryd.prog 25 [.slice a xs.length ca, .slice b ys.length cb].toArray S w0 η (fun v η' => v = .bool (decide (xs = ys)) ∧ η' = η) := by
  have hF := open_wide
  refine Rt.of (fn := Tryd.f25) Tryd.func25 rfl rfl ?_
  refine T.seq ?_
  refine T.region ?_
  refine TL.assign hF rfl rfl ?_
  refine TL.nil ?_
  refine TQ.then_n ?_
  refine T.seq ?_
  refine T.seq ?_
  refine T.region ?_
  refine TL.move hF rfl rfl ?_
  refine TL.len hF rfl rfl ?_
  refine TL.move hF rfl rfl ?_
  refine TL.len hF rfl rfl ?_
  refine TL.bin hF rfl rfl rfl rfl ?_
  refine TL.nil ?_
  refine TQ.then_n ?_
  first | refine T.cond_d rfl (fun ht10 => ?_) (fun ht10 => ?_) | refine T.cond _ rfl (fun ht10 => ?_) (fun ht10 => ?_)
  · refine T.seq ?_
    refine T.region ?_
    refine TL.assign hF rfl rfl ?_
    refine TL.nil ?_
    refine TQ.then_n ?_
    refine T.ret ?_
    refine TQ.then_r ?_
    refine TQ.rets [4] _ rfl rfl rfl ?_
    have e : decide (xs = ys) = false := decide_eq_false (fun h => by rw [h] at ht10; exact ht10 rfl)
    rw [e]; exact ⟨rfl, rfl⟩
  · refine T.skip ?_
    refine TQ.then_n ?_
    refine T.seq ?_
    refine T.seq ?_
    refine T.region ?_
    refine TL.assign hF rfl rfl ?_
    refine TL.nil ?_
    refine TQ.then_n ?_
    refine T.block ?_
    have hle : xs.length = ys.length := by omega
    refine T.loop (ι := Nat) (fun k => k ≤ xs.length ∧ xs.take k = ys.take k) (fun k => [(0, .slice a xs.length ca), (1, .slice b ys.length cb), (4, .bool false), (5, .int .i64 (k : Int))]) (fun _ => η) (fun k => xs.length - k) 0 ⟨Nat.zero_le _, by simp⟩ ⟨rfl, rfl, rfl, rfl, trivial⟩ rfl ?_
    rintro k ⟨hk, he⟩
    refine T.seq ?_
    refine T.seq ?_
    refine T.region ?_
    refine TL.move hF rfl rfl ?_
    refine TL.move hF rfl rfl ?_
    refine TL.len hF rfl rfl ?_
    refine TL.bin hF rfl rfl rfl rfl ?_
    refine TL.nil ?_
    refine TQ.then_n ?_
    first | refine T.cond_d rfl (fun ht14 => ?_) (fun ht14 => ?_) | refine T.cond _ rfl (fun ht14 => ?_) (fun ht14 => ?_)
    · refine T.skip ?_
      refine TQ.then_n ?_
      refine T.seq ?_
      refine T.block ?_
      refine T.seq ?_
      refine T.draw ?_
      refine DR.stepV [_] rfl [(0, _, none)] rfl rfl ⟨⟨rfl, by kernel_rfl⟩, trivial⟩ (fun ext => TL.move hF rfl rfl TL.fin) ?_
      refine DR.stepV [_, _] rfl [(5, _, none)] rfl rfl ⟨⟨rfl, by kernel_rfl⟩, trivial⟩ (fun ext => TL.move hF rfl rfl TL.fin) ?_
      refine DR.stepV [_, _, _] rfl [(17, _, some 0), (18, _, some 1)] rfl rfl ⟨⟨rfl, rfl, rfl⟩, ⟨rfl, rfl, rfl⟩, trivial⟩ (fun ext => TL.indexAddr hF rfl rfl (hx.tad dcl (by decide) (i := k) (by omega)) (by omega) (by omega) rfl TL.fin) ?_
      refine DR.stepV [_, _, _, _] rfl [(19, _, some 2)] rfl rfl ⟨⟨rfl, rfl, rfl⟩, trivial⟩ (fun ext => TL.loadA hF (xs[k]'(by omega)).cells rfl rfl (hx.tabA dcl (i := k) (by omega)) rfl TL.fin) ?_
      refine DR.stepV [_, _, _, _, _] rfl [(1, _, none)] rfl rfl ⟨⟨rfl, by kernel_rfl⟩, trivial⟩ (fun ext => TL.move hF rfl rfl TL.fin) ?_
      refine DR.stepV [_, _, _, _, _, _] rfl [(5, _, none)] rfl rfl ⟨⟨rfl, by kernel_rfl⟩, trivial⟩ (fun ext => TL.move hF rfl rfl TL.fin) ?_
      refine DR.stepV [_, _, _, _, _, _, _] rfl [(21, _, some 4), (22, _, some 5)] rfl rfl ⟨⟨rfl, rfl, rfl⟩, ⟨rfl, rfl, rfl⟩, trivial⟩ (fun ext => TL.indexAddr hF rfl rfl (hy.tad dcl (by decide) (i := k) (by omega)) (by omega) (by omega) rfl TL.fin) ?_
      refine DR.stepV [_, _, _, _, _, _, _, _] rfl [(23, _, some 6)] rfl rfl ⟨⟨rfl, rfl, rfl⟩, trivial⟩ (fun ext => TL.loadA hF (ys[k]'(by omega)).cells rfl rfl (hy.tabA dcl (i := k) (by omega)) rfl TL.fin) ?_
      refine DR.done [(24, _), (23, _), (22, _), (21, _), (20, _), (19, _), (18, _), (17, _)] [_] mixed (by kernel_rfl) (by kernel_rfl) (by kernel_rfl) rfl rfl ?_
      refine TL.neqA hF rfl rfl (by kernel_rfl) (fun w => eq53 (xs[k]'(by omega)) (ys[k]'(by omega)) w) rfl ?_
      refine TL.nil ?_
      refine TQ.then_n ?_
      refine T.cond _ rfl (fun hne => ?_) (fun hne => ?_)
      all_goals simp at hne
      · refine T.seq ?_
        refine T.region ?_
        refine TL.assign hF rfl rfl ?_
        refine TL.nil ?_
        refine TQ.then_n ?_
        refine T.ret ?_
        refine TQ.block_r ?_
        refine TQ.then_r ?_
        refine TQ.then_r ?_
        refine TQ.block_r ?_
        refine TQ.then_r ?_
        refine TQ.rets [4] _ rfl rfl rfl ?_
        have e : decide (xs = ys) = false := decide_eq_false (ne_of_getElem (k := k) (by omega) (by omega) hne)
        rw [e]; exact ⟨rfl, rfl⟩
      · refine T.skip ?_
        refine TQ.block_n ?_
        refine TQ.then_n ?_
        refine T.region ?_
        refine TL.move hF rfl rfl ?_
        refine TL.add hF rfl rfl (by omega) (by omega) rfl ?_
        refine TL.assign hF rfl rfl ?_
        refine TL.nil ?_
        exact TQ.round (k + 1) ⟨by omega, take_succ_eq (by omega) (by omega) he hne⟩ (by omega) ⟨rfl, rfl, rfl, rfl, trivial⟩ rfl
    · refine T.exit ?_
      refine TQ.then_x ?_
      refine TQ.then_x ?_
      refine TQ.block_x ?_
      refine TQ.then_n ?_
      refine T.seq ?_
      refine T.region ?_
      refine TL.assign hF rfl rfl ?_
      refine TL.nil ?_
      refine TQ.then_n ?_
      refine T.ret ?_
      refine TQ.rets [4] _ rfl rfl rfl ?_
      have hkn : k = xs.length := by omega
      rw [List.take_of_length_le (by omega), List.take_of_length_le (by omega)] at he
      rw [decide_eq_true he]; exact ⟨rfl, rfl⟩
structure TD where
  da : Option Addr
  dc : Nat
  dg : Seg
  ds : List DoneD
  many : Nat
  wa : Option Addr
  wc : Nat
  wg : Seg
  wo : List (Value × List Int × Seg)
  ins : Heap
abbrev tdV (t : TD) : List Value := [.slice t.da t.ds.length t.dc, .int .i64 (t.many : Int), .slice t.wa t.wo.length t.wc]
structure TOk (t : TD) : Prop where
  done : OSl 53 4 (.slice t.da t.ds.length t.dc) t.ds.length (t.ds.flatMap DoneD.cells) t.dg
  words : OLs 24 (.slice t.wa t.wo.length t.wc) t.wo t.wg
  iw : ∀ q ∈ t.wo, q.2.2 ∈ t.ins
def allL (l : List NodeD) (W : Nat → Int) : List Int := (List.range l.length).map W
structure AS where
  k : Nat
  d : SD
  s : St
  Ws : List (Nat → Int)
  t : TD
structure AOk (l : List NodeD) (pick : List Int) (all : List InstD) (r : AS) : Prop where
  k : r.k ≤ all.length
  s : SOk l.length r.d r.s
  t : TOk r.t
  L : ∀ i, i < l.length → r.s.L i < r.k
  used : r.s.used = r.t.many
  many : r.t.many ≤ 40 * r.k
  dn : r.t.ds.length ≤ r.t.many
  word : ∀ j, -2147483648 ≤ r.s.W j ∧ r.s.W j ≤ 2147483647
  wl : r.t.wo.length = r.k
  ws : r.Ws.length = r.k
  wo : r.t.wo.map (·.2.1) = r.Ws.map (allL l)
  spec : toldS l all pick = (r.t.ds ++ (allS l pick (all.drop r.k) r.k r.s).1, r.t.many + (allS l pick (all.drop r.k) r.k r.s).2.1, r.Ws ++ (allS l pick (all.drop r.k) r.k r.s).2.2)
theorem dall1 (l : List DoneD) : ∀ v ∈ l.flatMap DoneD.cells, v.oneCell' = true := by
  intro v hv; obtain ⟨x, _, hx⟩ := List.mem_flatMap.1 hv; exact dcells1 x v hx
theorem runI_L {_l : List NodeD} {_want : Nat → Bool} {_now : Nat} {_pick : List Int} : True := trivial
theorem start_range {l : List NodeD} (hok : Ok l) (j : Nat) : -2147483648 ≤ (startS l).W j ∧ (startS l).W j ≤ 2147483647 := by
  have e2 : (startS l).W j = if (nd l j).op = 0 then (nd l j).n else 0 := rfl
  rw [e2]
  by_cases hj : j < l.length
  · rw [nd_eq hj]; have := hok.word j hj; split <;> omega
  · have e3 : nd l j = default := by unfold nd; rw [List.getD_eq_getElem?_getD, List.getElem?_eq_none (by omega)]; rfl
    rw [e3]; decide
theorem flat_len (l : List DoneD) : (l.flatMap DoneD.cells).length = l.length * 4 := by
  induction l with
  | nil => rfl
  | cons x r ih => simp only [List.flatMap_cons, List.length_append, ih, List.length_cons, dcl]; omega

set_option maxHeartbeats 2000000 in
theorem All_ref {a : Option Addr} {l : List NodeD} {c : Nat} {ia : Option Addr} {all : List InstD} {ic : Nat} {sa : Option Addr} {pick : List Int} {sc : Nat} (hn : Nodes S w0 [] a l) (hi : Insts S w0 [] ia all) (hp : Row S w0 [] sa (ints pick)) (hl : l.length < 2 ^ 63) (hfl : ∀ x ∈ l, x.fr.length < 2 ^ 63) (hal : all.length < 2 ^ 63) (hpl : pick.length < 2 ^ 63) :
    Rt Tryd.prog 47 [.slice a l.length c, .slice ia all.length ic, .slice sa pick.length sc].toArray S w0 η (fun v η' => ∃ t : TD, TOk t ∧ v = .tuple #[.agg (tdV t).toArray, .int .i64 (checkS l all pick)] ∧ η' = t.dg :: t.wg :: (t.ins ++ η) ∧ (checkS l all pick = 0 → ∃ Ws, toldS l all pick = (t.ds, t.many, Ws) ∧ t.wo.map (·.2.1) = Ws.map (allL l)) ∧ (checkS l all pick ≠ 0 → t.ds = [] ∧ t.many = 0 ∧ t.wo = [])) := by
  have hF := open_wide
  refine Rt.of (fn := Tryd.f47) Tryd.func47 rfl rfl ?_
  refine T.seq ?_
  refine T.region ?_
  refine TL.alloc hF rfl (fun b6 => ?_)
  refine TL.assign hF rfl rfl ?_
  refine TL.nil ?_
  refine TQ.then_n ?_
  refine T.seq ?_
  refine T.seq ?_
  refine T.region ?_
  refine TL.move hF rfl rfl ?_
  refine TL.move hF rfl rfl ?_
  refine TL.move hF rfl rfl ?_
  refine TL.callV hF (Check_ref hn hi hp hl hfl hal hpl) rfl rfl ?_
  refine TL.assign hF rfl rfl ?_
  refine TL.nil ?_
  refine TQ.then_n ?_
  refine T.seq ?_
  refine T.region ?_
  refine TL.move hF rfl rfl ?_
  refine TL.bin hF rfl rfl rfl rfl ?_
  refine TL.nil ?_
  refine TQ.then_n ?_
  first | refine T.cond_d rfl (fun ht20 => ?_) (fun ht20 => ?_) | refine T.cond _ rfl (fun ht20 => ?_) (fun ht20 => ?_)
  · refine T.seq ?_
    refine T.region ?_
    refine TL.build hF rfl (r := .agg #[.slice none 0 0, .int .i64 0, .slice none 0 0]) (fun w => by kernel_rfl) rfl ?_
    refine TL.move hF rfl rfl ?_
    refine TL.storeAI hF [.slice none 0 0, .int .i64 0, .slice none 0 0] 0 rfl rfl rfl rfl (by simp [Value.oneCell']) (by simp [Value.cells]) ?_
    refine TL.assign hF rfl rfl ?_
    refine TL.nil ?_
    refine TQ.then_n ?_
    refine T.ret ?_
    refine TQ.then_r ?_
    refine TQ.hnil (TQ.hnil ?_)
    refine TQ.retX [.cell 6 92, .tmp 7] [.agg #[.slice none 0 0, .int .i64 0, .slice none 0 0], .int .i64 (checkS l all pick)] ([] :: [] :: η) rfl ⟨ResV.agg [.slice none 0 0, .int .i64 0, .slice none 0 0] rfl rfl (own_list (i := 2) rfl), rfl, trivial⟩ rfl (List.Sublist.cons_cons _ (List.Sublist.cons_cons _ (List.sublist_cons_self _ _))) ?_
    exact ⟨⟨none, 0, [], [], 0, none, 0, [], [], []⟩, ⟨OSl.nil 53 4, ⟨OSl.nil 24 1, by simp⟩, by simp⟩, rfl, rfl, fun h => absurd h ht20, fun _ => ⟨rfl, rfl, rfl⟩⟩
  · refine T.skip ?_
    refine TQ.then_n ?_
    refine T.seq ?_
    refine T.region ?_
    refine TL.move hF rfl rfl ?_
    have hck0 : checkS l all pick = 0 := by omega
    have hva : valid l = true := by
      unfold checkS at hck0; split at hck0
      · assumption
      · omega
    have hok := ok_of hva
    have hlen := hok.len
    have hpos := hok.pos
    rw [checkS_rest hva] at hck0
    obtain ⟨hal2, hpl2, hpk, hinst⟩ := restE_ok hck0
    refine TL.call hF (start_fn hn hok) rfl rfl ?_
    rintro _ _ ⟨d0, rfl, rfl, hs0⟩
    refine TL.alloc hF rfl (fun b9 => ?_)
    refine TL.storeAI hF (stV l.length d0 0) 0 rfl rfl rfl rfl (stCells _ _ _) (by simp [Value.cells]) ?_
    refine TL.nil ?_
    refine TQ.then_n ?_
    refine T.seq ?_
    refine T.region ?_
    refine TL.alloc hF rfl (fun b10 => ?_)
    refine TL.nil ?_
    refine TQ.then_n ?_
    refine T.seq ?_
    refine T.seq ?_
    refine T.region ?_
    refine TL.assign hF rfl rfl ?_
    refine TL.nil ?_
    refine TQ.then_n ?_
    refine T.block ?_
    refine T.hnil (T.hnil ?_)
    refine T.pick [2, 0, 1, 3, 7, 4, 5, 6] [_, _, _, _, _, _, _, _] rfl rfl rfl ?_
    refine T.loop (ι := AS) (AOk l pick all) (fun r => [(0, .slice a l.length c), (1, .slice ia all.length ic), (2, .slice sa pick.length sc), (6, ptr b6), (7, .int .i64 0), (9, ptr b9), (10, ptr b10), (11, .int .i64 (r.k : Int))]) (fun r => [(b10, Obj.cells (tdV r.t).toArray 92 (0, 0))] :: r.t.dg :: r.t.wg :: [(b9, Obj.cells (stV l.length r.d r.s.used).toArray 105 (0, 0))] :: [(b6, Obj.cells #[.slice none 0 0, .int .i64 0, .slice none 0 0] 92 (0, 0))] :: cseg r.d.wb r.d.wu :: cseg r.d.ob r.d.ou :: cseg r.d.lb r.d.lu :: (r.t.ins ++ η)) (fun r => all.length - r.k) ⟨0, d0, startS l, [], ⟨none, 0, [], [], 0, none, 0, [], [], []⟩⟩ ⟨Nat.zero_le _, hs0, ⟨OSl.nil 53 4, ⟨OSl.nil 24 1, by simp⟩, by simp⟩, fun j _ => by show (-1 : Int) < ((0 : Nat) : Int); decide, rfl, Nat.le_refl _, Nat.le_refl _, start_range hok, rfl, rfl, rfl, by simp [toldS]⟩ ⟨rfl, rfl, rfl, rfl, rfl, rfl, rfl, rfl, trivial⟩ rfl ?_
    rintro r hr
    have hrk := hr.k
    have hrm := hr.many
    have hrd := hr.dn
    have hru := hr.used
    have hrw := hr.wl
    refine T.seq ?_
    refine T.seq ?_
    refine T.region ?_
    refine TL.move hF rfl rfl ?_
    refine TL.move hF rfl rfl ?_
    refine TL.len hF rfl rfl ?_
    refine TL.bin hF rfl rfl rfl rfl ?_
    refine TL.nil ?_
    refine TQ.then_n ?_
    first | refine T.cond_d rfl (fun ht28 => ?_) (fun ht28 => ?_) | refine T.cond _ rfl (fun ht28 => ?_) (fun ht28 => ?_)
    · refine T.skip ?_
      refine TQ.then_n ?_
      refine T.seq ?_
      refine T.block ?_
      have hkl : r.k < all.length := by omega
      refine T.cut (ι := IS × Nat) (fun q => IOk l (wantS l (all[r.k]'hkl).asks) r.k pick (afterSets (all[r.k]'hkl) r.k r.s) q.1 ∧ instS l (all[r.k]'hkl) r.k pick r.s = (q.1.acc, q.1.cnt, q.1.s)) (fun q => [(0, .slice a l.length c), (1, .slice ia all.length ic), (2, .slice sa pick.length sc), (6, ptr b6), (7, .int .i64 0), (9, ptr b9), (10, ptr b10), (11, .int .i64 (r.k : Int)), (12, .slice q.1.oa q.1.acc.length q.1.oc), (13, .int .i64 (q.1.cnt : Int)), (14, ptr q.2)]) (fun q => [(q.2, Obj.cells (stV l.length q.1.d q.1.s.used).toArray 105 (0, 0))] :: q.1.og :: [(b10, Obj.cells (tdV r.t).toArray 92 (0, 0))] :: r.t.dg :: r.t.wg :: [(b9, Obj.cells (stV l.length r.d r.s.used).toArray 105 (0, 0))] :: [(b6, Obj.cells #[.slice none 0 0, .int .i64 0, .slice none 0 0] 92 (0, 0))] :: cseg q.1.d.wb q.1.d.wu :: cseg q.1.d.ob q.1.d.ou :: cseg q.1.d.lb q.1.d.lu :: (r.t.ins ++ η)) ?_ ?_
      · refine T.drawH 16 mixed ?_
        refine DH.pure (i := 0) [(0, _, none)] rfl rfl rfl rfl ⟨⟨rfl, by kernel_rfl⟩, trivial⟩ (fun _ ext => TL.move hF rfl rfl TL.fin) ?_
        refine DH.pure (i := 1) [(1, _, none)] rfl rfl rfl rfl ⟨⟨rfl, by kernel_rfl⟩, trivial⟩ (fun _ ext => TL.move hF rfl rfl TL.fin) ?_
        refine DH.pure (i := 2) [(11, _, none)] rfl rfl rfl rfl ⟨⟨rfl, by kernel_rfl⟩, trivial⟩ (fun _ ext => TL.move hF rfl rfl TL.fin) ?_
        refine DH.pure (i := 3) [(33, _, some 1), (34, _, some 2)] rfl rfl rfl rfl ⟨⟨rfl, rfl, rfl⟩, ⟨rfl, rfl, rfl⟩, trivial⟩ (fun _ ext => TL.indexAddr hF rfl rfl (hi.ad (i := r.k) hkl) (by omega) (by omega) rfl TL.fin) ?_
        refine DH.read (i := 4) [(35, _, some 3)] rfl rfl rfl rfl ⟨⟨rfl, rfl, rfl⟩, trivial⟩ (fun ext => TL.loadA hF (all[r.k]'hkl).cells rfl rfl (hi.ro.atA (i := r.k) hkl) rfl TL.fin) ?_
        refine DH.pure (i := 5) [(11, _, none)] rfl rfl rfl rfl ⟨⟨rfl, by kernel_rfl⟩, trivial⟩ (fun _ ext => TL.move hF rfl rfl TL.fin) ?_
        refine DH.pure (i := 6) [(2, _, none)] rfl rfl rfl rfl ⟨⟨rfl, by kernel_rfl⟩, trivial⟩ (fun _ ext => TL.move hF rfl rfl TL.fin) ?_
        refine DH.read (i := 7) [(9, _, none)] rfl rfl rfl rfl ⟨⟨rfl, by kernel_rfl⟩, trivial⟩ (fun ext => TL.loadA hF (stV l.length r.d r.s.used) rfl rfl (by first | exact own_list (i := 3) rfl | exact own_list (i := 4) rfl) rfl TL.fin) ?_
        refine DH.k2 (by kernel_rfl) (by kernel_rfl) (by kernel_rfl) (by kernel_rfl) (HBK.mk (h := 8) [] [(32, _, some 0), (36, _, some 4), (37, _, some 5), (38, _, some 6), (39, _, some 7)] rfl rfl rfl ⟨⟨rfl, rfl, rfl⟩, ⟨rfl, rfl, rfl⟩, ⟨rfl, rfl, rfl⟩, ⟨rfl, rfl, rfl⟩, ⟨rfl, rfl, rfl⟩, trivial⟩ (by kernel_rfl) (fun ext => ?_)) (HBK.mk (h := 13) [4, 7] [] rfl rfl rfl trivial (by kernel_rfl) (fun ext => ?_))
        · refine TL.pick' [5, 6, 7, 0, 1, 2, 3, 4] [_, _, _, _, _, _, _, _] rfl rfl rfl ?_
          refine TL.call hF (Instant_fn (x := (all[r.k]'hkl)) (now := r.k) (s := r.s) (d := r.d) hn hok (hi.srow hkl) (hi.arow hkl) hp hpl2 hpk (hinst r.k hkl) hr.s hr.L (by omega) hr.word) rfl rfl ?_
          rintro _ _ ⟨q, hq, hins, rfl, rfl⟩
          refine TL.finK trivial ?_
          refine DH.pure (i := 9) [(40, _, some 8)] rfl rfl rfl rfl ⟨⟨rfl, rfl, rfl⟩, trivial⟩ (fun _ ext => TL.move hF rfl rfl TL.fin) ?_
          refine DH.pure (i := 10) [(31, _, some 9)] rfl rfl rfl rfl ⟨⟨rfl, rfl, rfl⟩, trivial⟩ (fun _ ext => TL.extract hF rfl rfl rfl TL.fin) ?_
          refine DH.pure (i := 11) [(31, _, some 9)] rfl rfl rfl rfl ⟨⟨rfl, rfl, rfl⟩, trivial⟩ (fun _ ext => TL.extract hF rfl rfl rfl TL.fin) ?_
          refine DH.pure (i := 12) [(31, _, some 9)] rfl rfl rfl rfl ⟨⟨rfl, rfl, rfl⟩, trivial⟩ (fun _ ext => TL.extract hF rfl rfl rfl TL.fin) ?_
          refine DH.heavy 13 [] (by kernel_rfl) (by kernel_rfl) (by kernel_rfl) (by kernel_rfl) rfl rfl rfl rfl trivial (by kernel_rfl) (fun ext => ?_)
          refine TL.alloc hF rfl (fun b14 => ?_)
          refine TL.finD ?_
          refine DH.pure (i := 14) [(41, _, some 10)] rfl rfl rfl rfl ⟨⟨rfl, rfl, rfl⟩, trivial⟩ (fun _ ext => TL.assign hF rfl rfl TL.fin) ?_
          refine DH.pure (i := 15) [(42, _, some 11)] rfl rfl rfl rfl ⟨⟨rfl, rfl, rfl⟩, trivial⟩ (fun _ ext => TL.assign hF rfl rfl TL.fin) ?_
          refine DH.done [(13, _), (12, _), (14, _), (43, _), (42, _), (41, _), (31, _), (40, _), (39, _), (38, _), (37, _), (36, _), (35, _), (34, _), (33, _), (32, _)] [_] (by kernel_rfl) (by kernel_rfl) (by kernel_rfl) (by kernel_rfl) rfl rfl ?_
          refine TL.pick' [0, 1, 5, 6, 7, 8, 9, 2, 3, 4] [_, _, _, _, _, _, _, _, _, _] rfl rfl rfl ?_
          refine TL.storeAI hF (stV l.length q.d q.s.used) 0 rfl rfl rfl rfl (stCells _ _ _) (by simp [Value.cells]) ?_
          refine TL.nil ?_
          exact TQ.cut (q, b14) ⟨hq, hins⟩ ⟨rfl, rfl, rfl, rfl, rfl, rfl, rfl, rfl, rfl, rfl, rfl, trivial⟩ rfl
        · refine TL.alloc hF rfl (fun b14 => ?_)
          refine TL.finK ⟨⟨_, rfl, _, _, [(35, _, some 3)], rfl, rfl, ⟨⟨rfl, rfl, rfl⟩, trivial⟩, fun ext => TL.loadA hF (all[r.k]'hkl).cells rfl rfl (hi.ro.atA (i := r.k) hkl) rfl TL.fin⟩, ⟨_, rfl, _, _, [(9, _, none)], rfl, rfl, ⟨⟨rfl, by kernel_rfl⟩, trivial⟩, fun ext => TL.loadA hF (stV l.length r.d r.s.used) rfl rfl (by first | exact own_list (i := 3) rfl | exact own_list (i := 4) rfl) rfl TL.fin⟩, trivial⟩ ?_
          refine DH.heavy 8 [(32, _, some 0), (36, _, some 4), (37, _, some 5), (38, _, some 6), (39, _, some 7)] (by kernel_rfl) (by kernel_rfl) (by kernel_rfl) (by kernel_rfl) rfl rfl rfl rfl ⟨⟨rfl, rfl, rfl⟩, ⟨rfl, rfl, rfl⟩, ⟨rfl, rfl, rfl⟩, ⟨rfl, rfl, rfl⟩, ⟨rfl, rfl, rfl⟩, trivial⟩ (by kernel_rfl) (fun ext => ?_)
          refine TL.pick' [6, 7, 8, 0, 1, 2, 3, 4, 5] [_, _, _, _, _, _, _, _, _] rfl rfl rfl ?_
          refine TL.call hF (Instant_fn (x := (all[r.k]'hkl)) (now := r.k) (s := r.s) (d := r.d) hn hok (hi.srow hkl) (hi.arow hkl) hp hpl2 hpk (hinst r.k hkl) hr.s hr.L (by omega) hr.word) rfl rfl ?_
          rintro _ _ ⟨q, hq, hins, rfl, rfl⟩
          refine TL.finD ?_
          refine DH.pure (i := 9) [(40, _, some 8)] rfl rfl rfl rfl ⟨⟨rfl, rfl, rfl⟩, trivial⟩ (fun _ ext => TL.move hF rfl rfl TL.fin) ?_
          refine DH.pure (i := 10) [(31, _, some 9)] rfl rfl rfl rfl ⟨⟨rfl, rfl, rfl⟩, trivial⟩ (fun _ ext => TL.extract hF rfl rfl rfl TL.fin) ?_
          refine DH.pure (i := 11) [(31, _, some 9)] rfl rfl rfl rfl ⟨⟨rfl, rfl, rfl⟩, trivial⟩ (fun _ ext => TL.extract hF rfl rfl rfl TL.fin) ?_
          refine DH.pure (i := 12) [(31, _, some 9)] rfl rfl rfl rfl ⟨⟨rfl, rfl, rfl⟩, trivial⟩ (fun _ ext => TL.extract hF rfl rfl rfl TL.fin) ?_
          refine DH.pure (i := 14) [(41, _, some 10)] rfl rfl rfl rfl ⟨⟨rfl, rfl, rfl⟩, trivial⟩ (fun _ ext => TL.assign hF rfl rfl TL.fin) ?_
          refine DH.pure (i := 15) [(42, _, some 11)] rfl rfl rfl rfl ⟨⟨rfl, rfl, rfl⟩, trivial⟩ (fun _ ext => TL.assign hF rfl rfl TL.fin) ?_
          refine DH.done [(13, _), (12, _), (43, _), (42, _), (41, _), (31, _), (40, _), (14, _), (39, _), (38, _), (37, _), (36, _), (35, _), (34, _), (33, _), (32, _)] [_] (by kernel_rfl) (by kernel_rfl) (by kernel_rfl) (by kernel_rfl) rfl rfl ?_
          refine TL.pick' [4, 0, 5, 6, 7, 8, 9, 1, 2, 3] [_, _, _, _, _, _, _, _, _, _] rfl rfl rfl ?_
          refine TL.storeAI hF (stV l.length q.d q.s.used) 0 rfl rfl rfl rfl (stCells _ _ _) (by simp [Value.cells]) ?_
          refine TL.nil ?_
          exact TQ.cut (q, b14) ⟨hq, hins⟩ ⟨rfl, rfl, rfl, rfl, rfl, rfl, rfl, rfl, rfl, rfl, rfl, trivial⟩ rfl
      · rintro ⟨q, b14⟩ ⟨hq, hins⟩
        dsimp only at hq hins ⊢
        have hqf := hq.fuel
        have hqd := hq.dn
        have hqu := hq.used
        have hu1 : (afterSets (all[r.k]'hkl) r.k r.s).used = r.s.used := rfl
        refine T.seq ?_
        refine T.region ?_
        refine TL.loadA hF (stV l.length q.d q.s.used) rfl rfl (own_list (i := 0) rfl) rfl ?_
        refine TL.storeAI hF (stV l.length q.d q.s.used) 5 rfl rfl rfl rfl (stCells _ _ _) (by simp) ?_
        refine TL.nil ?_
        refine TQ.then_n ?_
        refine T.seq ?_
        refine T.region ?_
        refine TL.fieldAddr hF rfl rfl ?_
        refine TL.load hF rfl (by first | exact At.own' (i := 0) rfl rfl | exact At.own' (i := 1) rfl rfl | exact At.own' (i := 2) rfl rfl | exact At.own' (i := 3) rfl rfl | exact At.own' (i := 4) rfl rfl | exact At.own' (i := 5) rfl rfl | exact At.own' (i := 6) rfl rfl | exact At.own' (i := 7) rfl rfl | exact At.own' (i := 8) rfl rfl | exact At.own' (i := 9) rfl rfl | exact At.own' (i := 10) rfl rfl | exact At.own' (i := 11) rfl rfl | exact At.own' (i := 12) rfl rfl) rfl ?_
        refine TL.move hF rfl rfl ?_
        refine TL.append hF 3 rfl rfl rfl hr.t.done (hq.out.row List.mem_cons_self |>.up upc).src rfl (flat_len _) (dall1 _) (by omega) (by omega) rfl (fun a1 cap1 seg1 ho1 => ?_)
        refine TL.fieldAddr hF rfl rfl ?_
        refine TL.storeI hF 2 rfl rfl rfl rfl (by simp) ?_
        refine TL.nil ?_
        refine TQ.then_n ?_
        refine T.seq ?_
        refine T.region ?_
        refine TL.fieldAddr hF rfl rfl ?_
        refine TL.load hF rfl (by first | exact At.own' (i := 0) rfl rfl | exact At.own' (i := 1) rfl rfl | exact At.own' (i := 2) rfl rfl | exact At.own' (i := 3) rfl rfl | exact At.own' (i := 4) rfl rfl | exact At.own' (i := 5) rfl rfl | exact At.own' (i := 6) rfl rfl | exact At.own' (i := 7) rfl rfl | exact At.own' (i := 8) rfl rfl | exact At.own' (i := 9) rfl rfl | exact At.own' (i := 10) rfl rfl | exact At.own' (i := 11) rfl rfl | exact At.own' (i := 12) rfl rfl) rfl ?_
        refine TL.move hF rfl rfl ?_
        refine TL.add hF rfl rfl (by omega) (by omega) rfl ?_
        refine TL.fieldAddr hF rfl rfl ?_
        refine TL.storeI hF 2 rfl rfl rfl rfl (by simp) ?_
        refine TL.nil ?_
        refine TQ.then_n ?_
        refine T.drawH 7 mixed ?_
        refine DH.pure (i := 0) [(10, _, none)] rfl rfl rfl rfl ⟨⟨rfl, by kernel_rfl⟩, trivial⟩ (fun _ ext => TL.fieldAddr hF rfl rfl TL.fin) ?_
        refine DH.read (i := 1) [(55, _, some 0)] rfl rfl rfl rfl ⟨⟨rfl, rfl, rfl⟩, trivial⟩ (fun ext => TL.load hF rfl (by first | exact At.own' (i := 2) rfl rfl | exact At.own' (i := 3) rfl rfl | exact At.own' (i := 4) rfl rfl) rfl TL.fin) ?_
        refine DH.pure (i := 3) [(9, _, none)] rfl rfl rfl rfl ⟨⟨rfl, by kernel_rfl⟩, trivial⟩ (fun _ ext => TL.fieldAddr hF rfl rfl TL.fin) ?_
        refine DH.read (i := 4) [(58, _, some 3)] rfl rfl rfl rfl ⟨⟨rfl, rfl, rfl⟩, trivial⟩ (fun ext => TL.load hF rfl (by first | exact At.own' (i := 5) rfl rfl | exact At.own' (i := 6) rfl rfl | exact At.own' (i := 7) rfl rfl) rfl TL.fin) ?_
        refine DH.k1 (by kernel_rfl) (by kernel_rfl) (by kernel_rfl) (by kernel_rfl) (HBK.mk (h := 2) [1, 4] [] rfl rfl rfl trivial (by kernel_rfl) (fun ext => ?_))
        refine TL.buildSlice hF rfl (cs := #[]) (e := 3) (fun w => by kernel_rfl) rfl (fun b57 => ?_)
        refine TL.finK ⟨⟨_, rfl, _, _, [(55, _, some 0)], rfl, rfl, ⟨⟨rfl, rfl, rfl⟩, trivial⟩, fun ext => TL.load hF rfl (by first | exact At.own' (i := 2) rfl rfl | exact At.own' (i := 3) rfl rfl | exact At.own' (i := 4) rfl rfl) rfl TL.fin⟩, ⟨_, rfl, _, _, [(58, _, some 3)], rfl, rfl, ⟨⟨rfl, rfl, rfl⟩, trivial⟩, fun ext => TL.load hF rfl (by first | exact At.own' (i := 5) rfl rfl | exact At.own' (i := 6) rfl rfl | exact At.own' (i := 7) rfl rfl) rfl TL.fin⟩, trivial⟩ ?_
        refine DH.k1 (by kernel_rfl) (by kernel_rfl) (by kernel_rfl) (by kernel_rfl) (HBK.mk (h := 5) [1] [(57, _, some 2), (59, _, some 4)] rfl rfl rfl ⟨⟨rfl, rfl, rfl⟩, ⟨rfl, rfl, rfl⟩, trivial⟩ (by kernel_rfl) (fun ext => ?_))
        refine TL.append hF 0 rfl rfl rfl (osl_fresh (e := 3) (sz := 1) (n := 0) (xs := []) rfl) (hq.s.w.row (by simp)).src rfl (by simp [intC_len]) (intC1 _ _) (by omega) (by omega) rfl (fun a3 cap3 seg3 ho3 => ?_)
        simp only [List.nil_append, Nat.zero_add] at ho3 ⊢
        refine TL.finK ⟨⟨_, rfl, _, _, [(55, _, some 0)], rfl, rfl, ⟨⟨rfl, rfl, rfl⟩, trivial⟩, fun ext => TL.load hF rfl (by first | exact At.own' (i := 2) rfl rfl | exact At.own' (i := 3) rfl rfl | exact At.own' (i := 4) rfl rfl) rfl TL.fin⟩, trivial⟩ ?_
        refine DH.k1 (by kernel_rfl) (by kernel_rfl) (by kernel_rfl) (by kernel_rfl) (HBK.mk (h := 6) [1] [(60, _, some 5)] rfl rfl rfl ⟨⟨rfl, rfl, rfl⟩, trivial⟩ (by kernel_rfl) (fun ext => ?_))
        refine TL.buildSlice hF rfl (cs := #[.slice a3 l.length cap3]) (e := 24) (fun w => by kernel_rfl) rfl (fun b61 => ?_)
        refine TL.finK ⟨⟨_, rfl, _, _, [(55, _, some 0)], rfl, rfl, ⟨⟨rfl, rfl, rfl⟩, trivial⟩, fun ext => TL.load hF rfl (by first | exact At.own' (i := 2) rfl rfl | exact At.own' (i := 3) rfl rfl | exact At.own' (i := 4) rfl rfl) rfl TL.fin⟩, trivial⟩ ?_
        refine DH.done [(61, _), (60, _), (57, _), (59, _), (58, _), (56, _), (55, _)] [_, _, _] (by kernel_rfl) (by kernel_rfl) (by kernel_rfl) (by kernel_rfl) rfl rfl ?_
        refine TL.append hF 6 rfl rfl rfl hr.t.words.o (row_own (cs := [.slice a3 l.length cap3]) (e := 24) List.mem_cons_self).src rfl rfl (by simp [Value.oneCell']) (by omega) (by omega) rfl (fun a2 cap2 seg2 ho2 => ?_)
        refine TL.fieldAddr hF rfl rfl ?_
        refine TL.storeI hF 4 rfl rfl rfl rfl (by simp) ?_
        refine TL.nil ?_
        refine TQ.block_n ?_
        refine TQ.then_n ?_
        refine T.region ?_
        refine TL.move hF rfl rfl ?_
        refine TL.add hF rfl rfl (by omega) (by omega) rfl ?_
        refine TL.assign hF rfl rfl ?_
        refine TL.nil ?_
        refine TQ.pick [4, 5, 6, 7, 8, 9, 10, 11, 1] [_, _, _, _, _, _, _, _, _, _, _, _] rfl rfl rfl ?_
        have hr2 : AOk l pick all ⟨r.k + 1, q.d, q.s, r.Ws ++ [q.s.W], ⟨a1, cap1, seg1, r.t.ds ++ q.acc, r.t.many + q.cnt, a2, cap2, seg2, r.t.wo ++ [(.slice a3 l.length cap3, allL l q.s.W, seg3)], seg3 :: r.t.ins⟩⟩ := {
          k := by simp only; omega
          s := hq.s
          t := ⟨by simp only [List.length_append, List.flatMap_append]; exact ho1, hr.t.words.snoc ho2 (by rw [show (allL l q.s.W).length = l.length by simp [allL], allL, ← intC_ints]; exact ho3) |> (by simpa only [List.length_append, List.length_singleton] using ·), fun z hz => by
            rcases List.mem_append.1 hz with h | h
            · exact List.mem_cons_of_mem _ (hr.t.iw z h)
            · rw [List.mem_singleton.1 h]; exact List.mem_cons_self⟩
          L := fun j hj => by have := hq.L j hj; simp only; omega
          used := by simp only; omega
          many := by simp only; omega
          dn := by simp only [List.length_append]; omega
          word := hq.word
          wl := by simp only [List.length_append, List.length_singleton]; omega
          ws := by simp only [List.length_append, List.length_singleton, hr.ws]
          wo := by simp only [List.map_append, hr.wo]; rfl
          spec := by rw [hr.spec, allS_drop hkl, hins]; simp [List.append_assoc, Nat.add_assoc] }
        refine TQ.round _ hr2 (by simp only; omega) ⟨rfl, rfl, rfl, rfl, rfl, rfl, rfl, rfl, trivial⟩ ?_
        simp [tdV]
        rfl
    · refine T.exit ?_
      refine TQ.then_x ?_
      refine TQ.then_x ?_
      refine TQ.block_x ?_
      refine TQ.then_n ?_
      refine T.seq ?_
      refine T.region ?_
      refine TL.loadA hF (tdV r.t) rfl rfl (own_list (i := 0) rfl) rfl ?_
      refine TL.storeAI hF (tdV r.t) 4 rfl rfl rfl rfl (by simp [Value.oneCell']) (by simp) ?_
      refine TL.assign hF rfl rfl ?_
      refine TL.nil ?_
      refine TQ.then_n ?_
      refine T.ret ?_
      have hk : r.k = all.length := by omega
      have h1 := hr.spec
      rw [hk, List.drop_length] at h1
      simp only [allS, List.append_nil, Nat.add_zero] at h1
      have hck : checkS l all pick = 0 := by rw [checkS_rest hva]; exact hck0
      refine TQ.retX [.cell 6 92, .tmp 7] [.agg (tdV r.t).toArray, .int .i64 0] (r.t.dg :: r.t.wg :: (r.t.ins ++ η)) rfl ⟨ResV.agg (tdV r.t) rfl rfl (own_list (i := 4) rfl), rfl, trivial⟩ rfl (List.Sublist.cons _ (List.Sublist.cons_cons _ (List.Sublist.cons_cons _ (List.Sublist.cons _ (List.Sublist.cons _ (List.Sublist.cons _ (List.Sublist.cons _ (List.Sublist.cons _ (List.Sublist.refl _))))))))) ?_
      rw [hck]
      exact ⟨r.t, hr.t, rfl, rfl, fun _ => ⟨r.Ws, h1, hr.wo⟩, fun h => absurd rfl h⟩
end Go.Proofs.YtefkmiomldhmjaaDoor
/- The reference's exported functions: runs. -/
namespace Go.Proofs.YtefkmiomldhmjaaDoor
open Go.Sl
variable {S : Nat → Prop} {w0 : World} {η : Heap}
theorem zip_take {α β γ : Type} (f : α → β → γ) : ∀ (xs : List α) (ys : List β) (k : Nat) (h1 : k < xs.length) (h2 : k < ys.length), List.zipWith f (xs.take (k + 1)) ys = List.zipWith f (xs.take k) ys ++ [f xs[k] ys[k]]
  | [], _, _, h, _ => by simp at h
  | _ :: _, [], _, _, h => by simp at h
  | x :: xs, y :: ys, 0, _, _ => by simp
  | x :: xs, y :: ys, k + 1, h1, h2 => by
    have := zip_take f xs ys k (by simpa using h1) (by simpa using h2)
    simp only [List.take_succ_cons, List.zipWith_cons_cons, this, List.cons_append, List.getElem_cons_succ]
theorem allS_len (l : List NodeD) (pick : List Int) : ∀ (all : List InstD) (now : Nat) (s : St), (allS l pick all now s).2.2.length = all.length
  | [], _, _ => rfl
  | x :: r, now, s => by simp only [allS, List.length_cons, allS_len l pick r]
theorem lists_fix {a : Option Addr} {ls : List (List Int)} (h : Lists S w0 η a ls) : ∃ f : Nat → Option Addr × Nat, ∀ η', (∀ x ∈ η, x ∈ η') → (∀ i (hi : i < ls.length), At S w0 η' (sAt a (i * 1)) (.slice (f i).1 ls[i].length (f i).2) ∧ Row S w0 η' (f i).1 (ints ls[i])) ∧ (∀ i, i < ls.length → ∃ ad, a = some ad ∧ ad.spot = none) := by
  obtain ⟨f, hf, h2⟩ := h.item
  exact ⟨f, fun η' hs => ⟨fun i hi => ⟨(hf i hi).1.up hs, (hf i hi).2.up hs⟩, h2⟩⟩
theorem OLs.snoc1 {v : Value} {outs : List (Value × List Int × Seg)} {og og' : Seg} (h : OLs 24 v outs og) {a a2 : Option Addr} {cap cap2 : Nat} {xs : List Int} {sg : Seg} (ho : OSl 24 1 (.slice a (outs.length + 1) cap) (outs.length + 1) (outs.map (·.1) ++ [.slice a2 xs.length cap2]) og') (hi : OSl 3 1 (.slice a2 xs.length cap2) xs.length (ints xs) sg) :
    OLs 24 (.slice a (outs ++ [(Value.slice a2 xs.length cap2, xs, sg)]).length cap) (outs ++ [(.slice a2 xs.length cap2, xs, sg)]) og' := by
  simpa only [List.length_append, List.length_singleton] using h.snoc ho hi
theorem allL_get {l : List NodeD} {W : Nat → Int} {i : Nat} (hi : i < (allL l W).length) : (allL l W)[i] = W i := by simp [allL]
theorem allL_len (l : List NodeD) (W : Nat → Int) : (allL l W).length = l.length := by unfold allL; simp

set_option maxHeartbeats 2000000 in
theorem Run_ref {a : Option Addr} {l : List NodeD} {c : Nat} {ia : Option Addr} {all : List InstD} {ic : Nat} {sa : Option Addr} {pick : List Int} {sc : Nat} (hn : Nodes S w0 [] a l) (hi : Insts S w0 [] ia all) (hp : Row S w0 [] sa (ints pick)) (hl : l.length < 2 ^ 63) (hfl : ∀ x ∈ l, x.fr.length < 2 ^ 63) (hal : all.length < 2 ^ 63) (hpl : pick.length < 2 ^ 63) :
    Rt Tryd.prog 18 [.slice a l.length c, .slice ia all.length ic, .slice sa pick.length sc].toArray S w0 η (fun v η' => ∃ a cap segs, v = .tuple #[.slice a (runS l all pick).1.length cap, .int .i64 (runS l all pick).2] ∧ η' = segs ++ η ∧ Row S w0 segs a ((runS l all pick).1.flatMap DoneD.cells)) := by
  have hF := open_wide
  refine Rt.of (fn := Tryd.f18) Tryd.func18 rfl rfl ?_
  refine T.seq ?_
  refine T.region ?_
  refine TL.assign hF rfl rfl ?_
  refine TL.assign hF rfl rfl ?_
  refine TL.nil ?_
  refine TQ.then_n ?_
  refine T.seq ?_
  refine T.region ?_
  refine TL.move hF rfl rfl ?_
  refine TL.move hF rfl rfl ?_
  refine TL.move hF rfl rfl ?_
  refine TL.call hF (All_ref hn hi hp hl hfl hal hpl) rfl rfl ?_
  rintro _ _ ⟨t, ht, rfl, rfl, hck, hck2⟩
  refine TL.move hF rfl rfl ?_
  refine TL.extract hF rfl rfl rfl ?_
  refine TL.extract hF rfl rfl rfl ?_
  refine TL.alloc hF rfl (fun b8 => ?_)
  refine TL.storeAI hF (tdV t) 0 rfl rfl rfl rfl (by simp [Value.oneCell']) (by simp [Value.cells]) ?_
  refine TL.assign hF rfl rfl ?_
  refine TL.nil ?_
  refine TQ.then_n ?_
  refine T.seq ?_
  refine T.region ?_
  refine TL.fieldAddr hF rfl rfl ?_
  refine TL.load hF rfl (by first | exact At.own' (i := 0) rfl rfl | exact At.own' (i := 1) rfl rfl | exact At.own' (i := 2) rfl rfl | exact At.own' (i := 3) rfl rfl | exact At.own' (i := 4) rfl rfl | exact At.own' (i := 5) rfl rfl | exact At.own' (i := 6) rfl rfl | exact At.own' (i := 7) rfl rfl | exact At.own' (i := 8) rfl rfl | exact At.own' (i := 9) rfl rfl | exact At.own' (i := 10) rfl rfl | exact At.own' (i := 11) rfl rfl | exact At.own' (i := 12) rfl rfl) rfl ?_
  refine TL.move hF rfl rfl ?_
  refine TL.assign hF rfl rfl ?_
  refine TL.assign hF rfl rfl ?_
  refine TL.nil ?_
  refine TQ.then_n ?_
  refine T.ret ?_
  refine TQ.rets [6, 7] _ rfl rfl rfl ?_
  have e : runS l all pick = (t.ds, checkS l all pick) := by
    unfold runS
    by_cases h : checkS l all pick = 0
    · rw [if_pos h]; obtain ⟨Ws, h1, _⟩ := hck h; rw [h1, h]
    · rw [if_neg h, (hck2 h).1]
  rw [e]
  exact ⟨t.da, t.dc, ([(b8, Obj.cells (tdV t).toArray 92 (0, 0))] :: t.dg :: t.wg :: t.ins), rfl, rfl, ht.done.row (by simp)⟩
set_option maxHeartbeats 2000000 in
theorem Looked_ref {a : Option Addr} {l : List NodeD} {c : Nat} {ia : Option Addr} {all : List InstD} {ic : Nat} {sa : Option Addr} {pick : List Int} {sc : Nat} (hn : Nodes S w0 [] a l) (hi : Insts S w0 [] ia all) (hp : Row S w0 [] sa (ints pick)) (hl : l.length < 2 ^ 63) (hfl : ∀ x ∈ l, x.fr.length < 2 ^ 63) (hal : all.length < 2 ^ 63) (hpl : pick.length < 2 ^ 63) :
    Rt Tryd.prog 24 [.slice a l.length c, .slice ia all.length ic, .slice sa pick.length sc].toArray S w0 η (fun v η' => v = .tuple #[.int .i64 (lookedS l all pick).1, .int .i64 (lookedS l all pick).2.1, .int .i64 (lookedS l all pick).2.2] ∧ ∃ segs, η' = segs ++ η) := by
  have hF := open_wide
  refine Rt.of (fn := Tryd.f24) Tryd.func24 rfl rfl ?_
  refine T.seq ?_
  refine T.region ?_
  refine TL.assign hF rfl rfl ?_
  refine TL.assign hF rfl rfl ?_
  refine TL.assign hF rfl rfl ?_
  refine TL.nil ?_
  refine TQ.then_n ?_
  refine T.seq ?_
  refine T.region ?_
  refine TL.move hF rfl rfl ?_
  refine TL.move hF rfl rfl ?_
  refine TL.move hF rfl rfl ?_
  refine TL.call hF (All_ref hn hi hp hl hfl hal hpl) rfl rfl ?_
  rintro _ _ ⟨t, ht, rfl, rfl, hck, hck2⟩
  refine TL.move hF rfl rfl ?_
  refine TL.extract hF rfl rfl rfl ?_
  refine TL.extract hF rfl rfl rfl ?_
  refine TL.alloc hF rfl (fun b9 => ?_)
  refine TL.storeAI hF (tdV t) 0 rfl rfl rfl rfl (by simp [Value.oneCell']) (by simp [Value.cells]) ?_
  refine TL.assign hF rfl rfl ?_
  refine TL.nil ?_
  refine TQ.then_n ?_
  refine T.seq ?_
  refine T.draw ?_
  refine DR.stepV [_] rfl [(9, _, none)] rfl rfl ⟨⟨rfl, by kernel_rfl⟩, trivial⟩ (fun ext => TL.fieldAddr hF rfl rfl TL.fin) ?_
  refine DR.stepV [_, _] rfl [(18, _, some 0)] rfl rfl ⟨⟨rfl, rfl, rfl⟩, trivial⟩ (fun ext => TL.load hF rfl (by first | exact At.own' (i := 0) rfl rfl | exact At.own' (i := 1) rfl rfl | exact At.own' (i := 2) rfl rfl | exact At.own' (i := 3) rfl rfl | exact At.own' (i := 4) rfl rfl | exact At.own' (i := 5) rfl rfl | exact At.own' (i := 6) rfl rfl | exact At.own' (i := 7) rfl rfl | exact At.own' (i := 8) rfl rfl | exact At.own' (i := 9) rfl rfl | exact At.own' (i := 10) rfl rfl | exact At.own' (i := 11) rfl rfl | exact At.own' (i := 12) rfl rfl) rfl TL.fin) ?_
  refine DR.stepV [_, _, _] rfl [(9, _, none)] rfl rfl ⟨⟨rfl, by kernel_rfl⟩, trivial⟩ (fun ext => TL.fieldAddr hF rfl rfl TL.fin) ?_
  refine DR.stepV [_, _, _, _] rfl [(20, _, some 2)] rfl rfl ⟨⟨rfl, rfl, rfl⟩, trivial⟩ (fun ext => TL.load hF rfl (by first | exact At.own' (i := 0) rfl rfl | exact At.own' (i := 1) rfl rfl | exact At.own' (i := 2) rfl rfl | exact At.own' (i := 3) rfl rfl | exact At.own' (i := 4) rfl rfl | exact At.own' (i := 5) rfl rfl | exact At.own' (i := 6) rfl rfl | exact At.own' (i := 7) rfl rfl | exact At.own' (i := 8) rfl rfl | exact At.own' (i := 9) rfl rfl | exact At.own' (i := 10) rfl rfl | exact At.own' (i := 11) rfl rfl | exact At.own' (i := 12) rfl rfl) rfl TL.fin) ?_
  refine DR.stepV [_, _, _, _, _] rfl [(21, _, some 3)] rfl rfl ⟨⟨rfl, rfl, rfl⟩, trivial⟩ (fun ext => TL.len hF rfl rfl TL.fin) ?_
  refine DR.stepV [_, _, _, _, _, _] rfl [(10, _, none)] rfl rfl ⟨⟨rfl, by kernel_rfl⟩, trivial⟩ (fun ext => TL.move hF rfl rfl TL.fin) ?_
  refine DR.stepV [_, _, _, _, _, _, _] rfl [(19, _, some 1)] rfl rfl ⟨⟨rfl, rfl, rfl⟩, trivial⟩ (fun ext => TL.assign hF rfl rfl TL.fin) ?_
  refine DR.stepV [_, _, _, _, _, _, _, _] rfl [(22, _, some 4)] rfl rfl ⟨⟨rfl, rfl, rfl⟩, trivial⟩ (fun ext => TL.assign hF rfl rfl TL.fin) ?_
  refine DR.done [(7, _), (6, _), (23, _), (22, _), (21, _), (20, _), (19, _), (18, _)] [_] mixed (by kernel_rfl) (by kernel_rfl) (by kernel_rfl) rfl rfl ?_
  refine TL.assign hF rfl rfl ?_
  refine TL.nil ?_
  refine TQ.then_n ?_
  refine T.ret ?_
  refine TQ.rets [6, 7, 8] _ rfl rfl rfl ?_
  have e : lookedS l all pick = (((t.many : Nat) : Int), ((t.ds.length : Nat) : Int), checkS l all pick) := by
    unfold lookedS
    by_cases h : checkS l all pick = 0
    · rw [if_pos h]; obtain ⟨Ws, h1, _⟩ := hck h; rw [h1, h]
    · rw [if_neg h, (hck2 h).1, (hck2 h).2.1]; rfl
  rw [e]
  exact ⟨rfl, ([(b9, Obj.cells (tdV t).toArray 92 (0, 0))] :: t.dg :: t.wg :: t.ins), rfl⟩
set_option maxHeartbeats 2000000 in
theorem Asked_ref {a : Option Addr} {l : List NodeD} {c : Nat} {ia : Option Addr} {all : List InstD} {ic : Nat} {sa : Option Addr} {pick : List Int} {sc : Nat} (hn : Nodes S w0 [] a l) (hi : Insts S w0 [] ia all) (hp : Row S w0 [] sa (ints pick)) (hl : l.length < 2 ^ 63) (hfl : ∀ x ∈ l, x.fr.length < 2 ^ 63) (hal : all.length < 2 ^ 63) (hpl : pick.length < 2 ^ 63) :
    Rt Tryd.prog 20 [.slice a l.length c, .slice ia all.length ic, .slice sa pick.length sc].toArray S w0 η (fun v η' => ∃ a cap segs, v = .tuple #[.slice a (askedS l all pick).1.length cap, .int .i64 (askedS l all pick).2] ∧ η' = segs ++ η ∧ Lists S w0 segs a (askedS l all pick).1) := by
  have hF := open_wide
  refine Rt.of (fn := Tryd.f20) Tryd.func20 rfl rfl ?_
  refine T.seq ?_
  refine T.region ?_
  refine TL.assign hF rfl rfl ?_
  refine TL.assign hF rfl rfl ?_
  refine TL.nil ?_
  refine TQ.then_n ?_
  refine T.seq ?_
  refine T.region ?_
  refine TL.move hF rfl rfl ?_
  refine TL.move hF rfl rfl ?_
  refine TL.move hF rfl rfl ?_
  refine TL.call hF (All_ref hn hi hp hl hfl hal hpl) rfl rfl ?_
  rintro _ _ ⟨t, ht, rfl, rfl, hck, hck2⟩
  refine TL.move hF rfl rfl ?_
  refine TL.extract hF rfl rfl rfl ?_
  refine TL.extract hF rfl rfl rfl ?_
  refine TL.alloc hF rfl (fun b8 => ?_)
  refine TL.storeAI hF (tdV t) 0 rfl rfl rfl rfl (by simp [Value.oneCell']) (by simp [Value.cells]) ?_
  refine TL.assign hF rfl rfl ?_
  refine TL.nil ?_
  refine TQ.then_n ?_
  refine T.seq ?_
  refine T.seq ?_
  refine T.region ?_
  refine TL.move hF rfl rfl ?_
  refine TL.bin hF rfl rfl rfl rfl ?_
  refine TL.nil ?_
  refine TQ.then_n ?_
  first | refine T.cond_d rfl (fun ht22 => ?_) (fun ht22 => ?_) | refine T.cond _ rfl (fun ht22 => ?_) (fun ht22 => ?_)
  · refine T.seq ?_
    refine T.region ?_
    refine TL.move hF rfl rfl ?_
    refine TL.assign hF rfl rfl ?_
    refine TL.assign hF rfl rfl ?_
    refine TL.nil ?_
    refine TQ.then_n ?_
    refine T.ret ?_
    refine TQ.then_r ?_
    have e : askedS l all pick = ([], checkS l all pick) := by unfold askedS; rw [if_neg (by omega)]
    refine TQ.rets [6, 7] _ rfl rfl rfl ?_
    rw [e]
    exact ⟨none, 0, ([(b8, Obj.cells (tdV t).toArray 92 (0, 0))] :: t.dg :: t.wg :: t.ins), rfl, rfl, Lists.none⟩
  · refine T.skip ?_
    refine TQ.then_n ?_
    refine T.seq ?_
    refine T.region ?_
    refine TL.assign hF rfl rfl ?_
    refine TL.nil ?_
    refine TQ.then_n ?_
    refine T.seq ?_
    refine T.seq ?_
    refine T.region ?_
    refine TL.assign hF rfl rfl ?_
    refine TL.nil ?_
    refine TQ.then_n ?_
    refine T.block ?_
    have hck0 : checkS l all pick = 0 := by omega
    obtain ⟨Ws, htold, hwo⟩ := hck hck0
    have hva : valid l = true := by
      have h := hck0
      unfold checkS at h; split at h
      · assumption
      · omega
    have hok := ok_of hva
    have hlen := hok.len
    have hck1 := hck0
    rw [checkS_rest hva] at hck1
    obtain ⟨hal2, hpl2, hpk, hinst⟩ := restE_ok hck1
    have hwl : Ws.length = all.length := by have := allS_len l pick all 0 (startS l); unfold toldS at htold; rw [htold] at this; exact this
    have hWL : (t.wo.map (·.2.1)).length = all.length := by rw [hwo, List.length_map, hwl]
    have hLst : Lists S w0 (t.wg :: t.ins) t.wa (t.wo.map (·.2.1)) := ht.words.lists (by simp) (fun z hz => by have := ht.iw z hz; simp [this])
    have hwolen : t.wo.length = all.length := by simpa using hWL
    rw [hwo] at hLst hWL
    obtain ⟨pf, hpf⟩ := lists_fix hLst
    have hWk : ∀ i (h : i < all.length), (Ws.map (allL l))[i]'(by rw [List.length_map]; omega) = allL l (Ws[i]'(by omega)) := fun i h => by rw [List.getElem_map]
    clear hl hal hpl hfl
    refine T.hnil ?_
    refine T.loop (ι := Nat × List (Value × List Int × Seg) × Option Addr × Nat × Seg × Heap) (fun i => i.1 ≤ all.length ∧ OLs 24 (.slice i.2.2.1 i.2.1.length i.2.2.2.1) i.2.1 i.2.2.2.2.1 ∧ i.2.1.length = i.1 ∧ i.2.1.map (·.2.1) = askedOf (all.take i.1) Ws ∧ ∀ z ∈ i.2.1, z.2.2 ∈ i.2.2.2.2.2) (fun i => [(1, .slice ia all.length ic), (6, .slice none 0 0), (7, .int .i64 0), (8, ptr b8), (10, .slice i.2.2.1 i.2.1.length i.2.2.2.1), (11, .int .i64 (i.1 : Int))]) (fun i => i.2.2.2.2.1 :: (i.2.2.2.2.2 ++ ([(b8, Obj.cells (tdV t).toArray 92 (0, 0))] :: t.dg :: t.wg :: (t.ins ++ η)))) (fun i => all.length - i.1) (0, [], none, 0, [], []) ⟨Nat.zero_le _, ⟨OSl.nil 24 1, by simp⟩, rfl, by simp [askedOf], by simp⟩ ⟨rfl, rfl, rfl, rfl, rfl, rfl, trivial⟩ rfl ?_
    rintro ⟨k, outs, oa, oc, og, ins2⟩ ⟨hk, hos, hol, hom, hoi⟩
    dsimp only at hk hos hol hom hoi
    refine T.seq ?_
    refine T.seq ?_
    refine T.region ?_
    refine TL.move hF rfl rfl ?_
    refine TL.move hF rfl rfl ?_
    refine TL.len hF rfl rfl ?_
    refine TL.bin hF rfl rfl rfl rfl ?_
    refine TL.nil ?_
    refine TQ.then_n ?_
    first | refine T.cond_d rfl (fun ht27 => ?_) (fun ht27 => ?_) | refine T.cond _ rfl (fun ht27 => ?_) (fun ht27 => ?_)
    · refine T.skip ?_
      refine TQ.then_n ?_
      refine T.seq ?_
      refine T.block ?_
      refine T.seq ?_
      refine T.region ?_
      refine TL.assign hF rfl rfl ?_
      refine TL.nil ?_
      refine TQ.then_n ?_
      refine T.seq ?_
      refine T.seq ?_
      refine T.region ?_
      refine TL.assign hF rfl rfl ?_
      refine TL.nil ?_
      refine TQ.then_n ?_
      refine T.block ?_
      have hkl : k < all.length := by omega
      have hio := instE_ok (hinst k hkl)
      have harow := hi.arow hkl
      refine T.hnil ?_
      refine T.loop (ι := Nat × Option Addr × Nat × Seg) (fun q => q.1 ≤ (all[k]'hkl).asks.length ∧ OSl 3 1 (.slice q.2.1 q.1 q.2.2.1) q.1 (ints (((all[k]'hkl).asks.take q.1).map fun z => (Ws[k]'(by omega)) z.toNat)) q.2.2.2) (fun q => [(1, .slice ia all.length ic), (6, .slice none 0 0), (7, .int .i64 0), (8, ptr b8), (10, .slice oa outs.length oc), (11, .int .i64 (k : Int)), (12, .slice q.2.1 q.1 q.2.2.1), (13, .int .i64 (q.1 : Int))]) (fun q => q.2.2.2 :: og :: (ins2 ++ ([(b8, Obj.cells (tdV t).toArray 92 (0, 0))] :: t.dg :: t.wg :: (t.ins ++ η)))) (fun q => (all[k]'hkl).asks.length - q.1) (0, none, 0, []) ⟨Nat.zero_le _, OSl.nil 3 1⟩ ⟨rfl, rfl, rfl, rfl, rfl, rfl, rfl, rfl, trivial⟩ rfl ?_
      rintro ⟨j, qa, qc, qg⟩ ⟨hj, hq⟩
      dsimp only at hj hq
      have hWL2 : k < (Ws.map (allL l)).length := by omega
      have hrowW : ∀ η', (∀ z ∈ t.wg :: t.ins, z ∈ η') → At S w0 η' (sAt t.wa (k * 1)) (.slice (pf k).1 l.length (pf k).2) ∧ Row S w0 η' (pf k).1 (ints (allL l (Ws[k]'(by omega)))) := fun η' hs => by
        have h := ((hpf η' hs).1 k hWL2)
        rw [hWk k hkl, allL_len] at h; exact h
      have hword : ∀ η', (∀ z ∈ t.wg :: t.ins, z ∈ η') → ∀ i, i < l.length → At S w0 η' (sAt (pf k).1 (i * 1)) (.int .i64 ((Ws[k]'(by omega)) i)) := fun η' hs i hi => by
        have h := (hrowW η' hs).2.int (i := i) (by rw [allL_len]; omega)
        rw [allL_get] at h; exact h
      have hwad := (hpf _ (fun _ h => h)).2 k hWL2
      refine T.seq ?_
      refine T.seq ?_
      refine T.region ?_
      refine TL.move hF rfl rfl ?_
      refine TL.move hF rfl rfl ?_
      refine TL.move hF rfl rfl ?_
      refine TL.indexAddr hF rfl rfl (hi.ad (i := k) hkl) (by omega) (by omega) rfl ?_
      refine TL.fieldAddr hF rfl rfl ?_
      refine TL.load hF rfl (hi.ro.at (i := k) hkl 1 rfl) rfl ?_
      refine TL.len hF rfl rfl ?_
      refine TL.bin hF rfl rfl rfl rfl ?_
      refine TL.nil ?_
      refine TQ.then_n ?_
      first | refine T.cond_d rfl (fun ht37 => ?_) (fun ht37 => ?_) | refine T.cond _ rfl (fun ht37 => ?_) (fun ht37 => ?_)
      · refine T.skip ?_
        refine TQ.then_n ?_
        refine T.seq ?_
        refine T.block ?_
        have hjl : j < (all[k]'hkl).asks.length := by omega
        have hask := asksOk_get hio.2.2.2 (List.getElem_mem hjl)
        obtain ⟨an, han⟩ : ∃ an : Nat, (all[k]'hkl).asks[j] = (an : Int) := ⟨((all[k]'hkl).asks[j]).toNat, by omega⟩
        refine T.drawH 17 mixed ?_
        refine DH.pure (i := 0) [(12, _, none)] rfl rfl rfl rfl ⟨⟨rfl, by kernel_rfl⟩, trivial⟩ (fun _ ext => TL.move hF rfl rfl TL.fin) ?_
        refine DH.pure (i := 1) [(8, _, none)] rfl rfl rfl rfl ⟨⟨rfl, by kernel_rfl⟩, trivial⟩ (fun _ ext => TL.fieldAddr hF rfl rfl TL.fin) ?_
        refine DH.read (i := 2) [(41, _, some 1)] rfl rfl rfl rfl ⟨⟨rfl, rfl, rfl⟩, trivial⟩ (fun ext => TL.load hF rfl (own_mem (cs := (tdV t).toArray) (e := 92) (fz := (0, 0)) (by simp) rfl) rfl TL.fin) ?_
        refine DH.pure (i := 3) [(11, _, none)] rfl rfl rfl rfl ⟨⟨rfl, by kernel_rfl⟩, trivial⟩ (fun _ ext => TL.move hF rfl rfl TL.fin) ?_
        refine DH.pure (i := 4) [(42, _, some 2), (43, _, some 3)] rfl rfl rfl rfl ⟨⟨rfl, rfl, rfl⟩, ⟨rfl, rfl, rfl⟩, trivial⟩ (fun _ ext => TL.indexAddr hF rfl rfl hwad (by omega) (by omega) rfl TL.fin) ?_
        refine DH.read (i := 5) [(44, _, some 4)] rfl rfl rfl rfl ⟨⟨rfl, rfl, rfl⟩, trivial⟩ (fun ext => TL.load hF rfl (hrowW _ (fun z hz => by rcases List.mem_cons.1 hz with rfl | hz <;> simp [*])).1 rfl TL.fin) ?_
        refine DH.pure (i := 6) [(1, _, none)] rfl rfl rfl rfl ⟨⟨rfl, by kernel_rfl⟩, trivial⟩ (fun _ ext => TL.move hF rfl rfl TL.fin) ?_
        refine DH.pure (i := 7) [(11, _, none)] rfl rfl rfl rfl ⟨⟨rfl, by kernel_rfl⟩, trivial⟩ (fun _ ext => TL.move hF rfl rfl TL.fin) ?_
        refine DH.pure (i := 8) [(46, _, some 6), (47, _, some 7)] rfl rfl rfl rfl ⟨⟨rfl, rfl, rfl⟩, ⟨rfl, rfl, rfl⟩, trivial⟩ (fun _ ext => TL.indexAddr hF rfl rfl (hi.ad (i := k) hkl) (by omega) (by omega) rfl TL.fin) ?_
        refine DH.pure (i := 9) [(48, _, some 8)] rfl rfl rfl rfl ⟨⟨rfl, rfl, rfl⟩, trivial⟩ (fun _ ext => TL.fieldAddr hF rfl rfl TL.fin) ?_
        refine DH.read (i := 10) [(49, _, some 9)] rfl rfl rfl rfl ⟨⟨rfl, rfl, rfl⟩, trivial⟩ (fun ext => TL.load hF rfl (hi.ro.at (i := k) hkl 1 rfl) rfl TL.fin) ?_
        refine DH.pure (i := 11) [(13, _, none)] rfl rfl rfl rfl ⟨⟨rfl, by kernel_rfl⟩, trivial⟩ (fun _ ext => TL.move hF rfl rfl TL.fin) ?_
        refine DH.pure (i := 12) [(50, _, some 10), (51, _, some 11)] rfl rfl rfl rfl ⟨⟨rfl, rfl, rfl⟩, ⟨rfl, rfl, rfl⟩, trivial⟩ (fun _ ext => TL.indexAddr hF rfl rfl (harow.adi (i := j) (by rw [List.length_map]; exact hjl)) (by omega) (by omega) rfl TL.fin) ?_
        refine DH.read (i := 13) [(52, _, some 12)] rfl rfl rfl rfl ⟨⟨rfl, rfl, rfl⟩, trivial⟩ (fun ext => TL.load hF rfl (v := .int .i64 (an : Int)) (by rw [← han]; exact (harow.ro.int (i := j) hjl)) rfl TL.fin) ?_
        refine DH.pure (i := 14) [(45, _, some 5), (53, _, some 13)] rfl rfl rfl rfl ⟨⟨rfl, rfl, rfl⟩, ⟨rfl, rfl, rfl⟩, trivial⟩ (fun _ ext => TL.indexAddr hF rfl rfl ((hrowW _ (fun _ h => h)).2.adi (i := an) (by rw [List.length_map, allL_len]; omega)) (by omega) (by omega) rfl TL.fin) ?_
        refine DH.read (i := 15) [(54, _, some 14)] rfl rfl rfl rfl ⟨⟨rfl, rfl, rfl⟩, trivial⟩ (fun ext => TL.load hF rfl (v := .int .i64 ((Ws[k]'(by omega)) an)) (hword _ (fun z hz => by rcases List.mem_cons.1 hz with rfl | hz <;> simp [*]) an (by omega)) rfl TL.fin) ?_
        refine DH.heavy 16 [(55, _, some 15)] (by kernel_rfl) (by kernel_rfl) (by kernel_rfl) (by kernel_rfl) rfl rfl rfl rfl ⟨⟨rfl, rfl, rfl⟩, trivial⟩ (by kernel_rfl) (fun ext => ?_)
        refine TL.buildSlice hF rfl (cs := #[.int .i64 ((Ws[k]'(by omega)) an)]) (e := 3) (fun w => by kernel_rfl) rfl (fun b56 => ?_)
        refine TL.finD ?_
        refine DH.done [(56, _), (55, _), (54, _), (53, _), (52, _), (51, _), (50, _), (49, _), (48, _), (47, _), (46, _), (45, _), (44, _), (43, _), (42, _), (41, _), (40, _)] [_, _] (by kernel_rfl) (by kernel_rfl) (by kernel_rfl) (by kernel_rfl) rfl rfl ?_
        refine TL.append hF 1 rfl rfl rfl hq (row_own (cs := [.int .i64 ((Ws[k]'(by omega)) an)]) (e := 3) List.mem_cons_self).src rfl rfl (by simp [Value.oneCell']) (by omega) (by omega) rfl (fun a' cap' seg' ho' => ?_)
        refine TL.assign hF rfl rfl ?_
        refine TL.nil ?_
        refine TQ.block_n ?_
        refine TQ.then_n ?_
        refine T.region ?_
        refine TL.move hF rfl rfl ?_
        refine TL.add hF rfl rfl (by omega) (by omega) rfl ?_
        refine TL.assign hF rfl rfl ?_
        refine TL.nil ?_
        refine TQ.pop ?_
        refine TQ.round (j + 1, a', cap', seg') ⟨by simp only; omega, ?_⟩ (by simp only; omega) ⟨rfl, rfl, rfl, rfl, rfl, rfl, rfl, rfl, trivial⟩ rfl
        have e : ints (((all[k]'hkl).asks.take (j + 1)).map fun z => (Ws[k]'(by omega)) z.toNat) = ints (((all[k]'hkl).asks.take j).map fun z => (Ws[k]'(by omega)) z.toNat) ++ [.int .i64 ((Ws[k]'(by omega)) an)] := by rw [List.take_succ_eq_append_getElem hjl, List.map_append, ints, List.map_append, List.map_singleton, han, Int.toNat_natCast]; rfl
        dsimp only
        rw [e]; exact ho'
      · refine T.exit ?_
        refine TQ.then_x ?_
        refine TQ.then_x ?_
        refine TQ.block_x ?_
        refine TQ.then_n ?_
        refine T.region ?_
        refine TL.move hF rfl rfl ?_
        refine TL.move hF rfl rfl ?_
        have hjl : j = (all[k]'hkl).asks.length := by omega
        rw [List.take_of_length_le (by omega)] at hq
        refine TL.buildSlice hF rfl (cs := #[.slice qa j qc]) (e := 24) (fun w => by kernel_rfl) rfl (fun b60 => ?_)
        refine TL.append hF 2 rfl rfl rfl hos.o (row_own (cs := [.slice qa j qc]) (e := 24) List.mem_cons_self).src rfl rfl (by simp [Value.oneCell']) (by omega) (by omega) rfl (fun a1 cap1 seg1 ho1 => ?_)
        refine TL.assign hF rfl rfl ?_
        refine TL.nil ?_
        refine TQ.block_n ?_
        refine TQ.then_n ?_
        refine T.region ?_
        refine TL.move hF rfl rfl ?_
        refine TL.add hF rfl rfl (by omega) (by omega) rfl ?_
        refine TL.assign hF rfl rfl ?_
        refine TL.nil ?_
        have hlo : ((all[k]'hkl).asks.map fun z => (Ws[k]'(by omega)) z.toNat).length = j := by rw [List.length_map]; omega
        refine TQ.pick [2, 1] [_, _, _] rfl rfl rfl ?_
        rw [← hlo] at ho1 hq ⊢
        refine TQ.round (k + 1, outs ++ [(.slice qa ((all[k]'hkl).asks.map fun z => (Ws[k]'(by omega)) z.toNat).length qc, ((all[k]'hkl).asks.map fun z => (Ws[k]'(by omega)) z.toNat), qg)], a1, cap1, seg1, qg :: ins2) ⟨by simp only; omega, hos.snoc1 ho1 hq, by simp only [List.length_append, List.length_singleton]; omega, ?_, fun z hz => ?_⟩ (by simp only; omega) ⟨rfl, rfl, rfl, rfl, congrArg (fun z : Nat => some (Value.slice a1 z cap1)) (by simp), rfl, trivial⟩ rfl
        · have e : askedOf (all.take (k + 1)) Ws = askedOf (all.take k) Ws ++ [((all[k]'hkl).asks.map fun z => (Ws[k]'(by omega)) z.toNat)] := by unfold askedOf; rw [zip_take _ _ _ _ hkl (by omega)]
          dsimp only
          rw [e, List.map_append, hom]; rfl
        · rcases List.mem_append.1 hz with h | h
          · exact List.mem_cons_of_mem _ (hoi z h)
          · rw [List.mem_singleton.1 h]; exact List.mem_cons_self
    · refine T.exit ?_
      refine TQ.then_x ?_
      refine TQ.then_x ?_
      refine TQ.block_x ?_
      refine TQ.then_n ?_
      refine T.seq ?_
      refine T.region ?_
      refine TL.move hF rfl rfl ?_
      refine TL.assign hF rfl rfl ?_
      refine TL.assign hF rfl rfl ?_
      refine TL.nil ?_
      refine TQ.then_n ?_
      refine T.ret ?_
      have hkn : k = all.length := by omega
      have e : askedS l all pick = (outs.map (·.2.1), 0) := by
        unfold askedS; rw [if_pos hck0, htold]
        rw [hkn] at hom
        rw [List.take_length] at hom
        rw [hom]
      refine TQ.rets [6, 7] _ rfl rfl rfl ?_
      rw [e]
      exact ⟨oa, oc, og :: (ins2 ++ ([(b8, Obj.cells (tdV t).toArray 92 (0, 0))] :: t.dg :: t.wg :: t.ins)), by simp [retVal], by simp, hos.lists (by simp) (fun z hz => by have := hoi z hz; simp [this])⟩
set_option maxHeartbeats 2000000 in
theorem Eager_ref {a : Option Addr} {l : List NodeD} {c : Nat} {ia : Option Addr} {all : List InstD} {ic : Nat} {sa : Option Addr} {pick : List Int} {sc : Nat} (hn : Nodes S w0 [] a l) (hi : Insts S w0 [] ia all) (hp : Row S w0 [] sa (ints pick)) (hl : l.length < 2 ^ 63) (hfl : ∀ x ∈ l, x.fr.length < 2 ^ 63) (hal : all.length < 2 ^ 63) (hpl : pick.length < 2 ^ 63) :
    Rt Tryd.prog 22 [.slice a l.length c, .slice ia all.length ic, .slice sa pick.length sc].toArray S w0 η (fun v η' => ∃ a cap segs, v = .tuple #[.slice a (eagerS l all pick).1.length cap, .int .i64 (eagerS l all pick).2] ∧ η' = segs ++ η ∧ Lists S w0 segs a (eagerS l all pick).1) := by
  have hF := open_wide
  refine Rt.of (fn := Tryd.f22) Tryd.func22 rfl rfl ?_
  refine T.seq ?_
  refine T.region ?_
  refine TL.assign hF rfl rfl ?_
  refine TL.assign hF rfl rfl ?_
  refine TL.nil ?_
  refine TQ.then_n ?_
  refine T.seq ?_
  refine T.region ?_
  refine TL.move hF rfl rfl ?_
  refine TL.move hF rfl rfl ?_
  refine TL.move hF rfl rfl ?_
  refine TL.call hF (All_ref hn hi hp hl hfl hal hpl) rfl rfl ?_
  rintro _ _ ⟨t, ht, rfl, rfl, hck, hck2⟩
  refine TL.move hF rfl rfl ?_
  refine TL.extract hF rfl rfl rfl ?_
  refine TL.extract hF rfl rfl rfl ?_
  refine TL.alloc hF rfl (fun b8 => ?_)
  refine TL.storeAI hF (tdV t) 0 rfl rfl rfl rfl (by simp [Value.oneCell']) (by simp [Value.cells]) ?_
  refine TL.assign hF rfl rfl ?_
  refine TL.nil ?_
  refine TQ.then_n ?_
  refine T.seq ?_
  refine T.seq ?_
  refine T.region ?_
  refine TL.move hF rfl rfl ?_
  refine TL.bin hF rfl rfl rfl rfl ?_
  refine TL.nil ?_
  refine TQ.then_n ?_
  first | refine T.cond_d rfl (fun ht22 => ?_) (fun ht22 => ?_) | refine T.cond _ rfl (fun ht22 => ?_) (fun ht22 => ?_)
  · refine T.seq ?_
    refine T.region ?_
    refine TL.move hF rfl rfl ?_
    refine TL.assign hF rfl rfl ?_
    refine TL.assign hF rfl rfl ?_
    refine TL.nil ?_
    refine TQ.then_n ?_
    refine T.ret ?_
    refine TQ.then_r ?_
    have e : eagerS l all pick = ([], checkS l all pick) := by unfold eagerS; rw [if_neg (by omega)]
    refine TQ.rets [6, 7] _ rfl rfl rfl ?_
    rw [e]
    exact ⟨none, 0, ([(b8, Obj.cells (tdV t).toArray 92 (0, 0))] :: t.dg :: t.wg :: t.ins), rfl, rfl, Lists.none⟩
  · refine T.skip ?_
    refine TQ.then_n ?_
    refine T.seq ?_
    refine T.region ?_
    refine TL.assign hF rfl rfl ?_
    refine TL.nil ?_
    refine TQ.then_n ?_
    refine T.seq ?_
    refine T.seq ?_
    refine T.region ?_
    refine TL.assign hF rfl rfl ?_
    refine TL.nil ?_
    refine TQ.then_n ?_
    refine T.block ?_
    have hck0 : checkS l all pick = 0 := by omega
    obtain ⟨Ws, htold, hwo⟩ := hck hck0
    have hva : valid l = true := by
      have h := hck0
      unfold checkS at h; split at h
      · assumption
      · omega
    have hok := ok_of hva
    have hlen := hok.len
    have hck1 := hck0
    rw [checkS_rest hva] at hck1
    obtain ⟨hal2, hpl2, hpk, hinst⟩ := restE_ok hck1
    have hwl : Ws.length = all.length := by have := allS_len l pick all 0 (startS l); unfold toldS at htold; rw [htold] at this; exact this
    have hWL : (t.wo.map (·.2.1)).length = all.length := by rw [hwo, List.length_map, hwl]
    have hLst : Lists S w0 (t.wg :: t.ins) t.wa (t.wo.map (·.2.1)) := ht.words.lists (by simp) (fun z hz => by have := ht.iw z hz; simp [this])
    have hwolen : t.wo.length = all.length := by simpa using hWL
    rw [hwo] at hLst hWL
    obtain ⟨pf, hpf⟩ := lists_fix hLst
    have hWk : ∀ i (h : i < all.length), (Ws.map (allL l))[i]'(by rw [List.length_map]; omega) = allL l (Ws[i]'(by omega)) := fun i h => by rw [List.getElem_map]
    clear hl hal hpl hfl
    refine T.hnil ?_
    refine T.loop (ι := Nat × List (Value × List Int × Seg) × Option Addr × Nat × Seg × Heap) (fun i => i.1 ≤ all.length ∧ OLs 24 (.slice i.2.2.1 i.2.1.length i.2.2.2.1) i.2.1 i.2.2.2.2.1 ∧ i.2.1.length = i.1 ∧ i.2.1.map (·.2.1) = (Ws.take i.1).map (eagerOf l) ∧ ∀ z ∈ i.2.1, z.2.2 ∈ i.2.2.2.2.2) (fun i => [(0, .slice a l.length c), (1, .slice ia all.length ic), (6, .slice none 0 0), (7, .int .i64 0), (8, ptr b8), (10, .slice i.2.2.1 i.2.1.length i.2.2.2.1), (11, .int .i64 (i.1 : Int))]) (fun i => i.2.2.2.2.1 :: (i.2.2.2.2.2 ++ ([(b8, Obj.cells (tdV t).toArray 92 (0, 0))] :: t.dg :: t.wg :: (t.ins ++ η)))) (fun i => all.length - i.1) (0, [], none, 0, [], []) ⟨Nat.zero_le _, ⟨OSl.nil 24 1, by simp⟩, rfl, by simp, by simp⟩ ⟨rfl, rfl, rfl, rfl, rfl, rfl, rfl, trivial⟩ rfl ?_
    rintro ⟨k, outs, oa, oc, og, ins2⟩ ⟨hk, hos, hol, hom, hoi⟩
    dsimp only at hk hos hol hom hoi
    refine T.seq ?_
    refine T.seq ?_
    refine T.region ?_
    refine TL.move hF rfl rfl ?_
    refine TL.move hF rfl rfl ?_
    refine TL.len hF rfl rfl ?_
    refine TL.bin hF rfl rfl rfl rfl ?_
    refine TL.nil ?_
    refine TQ.then_n ?_
    first | refine T.cond_d rfl (fun ht27 => ?_) (fun ht27 => ?_) | refine T.cond _ rfl (fun ht27 => ?_) (fun ht27 => ?_)
    · refine T.skip ?_
      refine TQ.then_n ?_
      refine T.seq ?_
      refine T.block ?_
      refine T.seq ?_
      refine T.region ?_
      refine TL.assign hF rfl rfl ?_
      refine TL.nil ?_
      refine TQ.then_n ?_
      refine T.seq ?_
      refine T.seq ?_
      refine T.region ?_
      refine TL.assign hF rfl rfl ?_
      refine TL.nil ?_
      refine TQ.then_n ?_
      refine T.block ?_
      have hkl : k < all.length := by omega
      have hio := instE_ok (hinst k hkl)
      have harow := hi.arow hkl
      refine T.hnil ?_
      refine T.loop (ι := Nat × Nat × Option Addr × Nat × Seg) (fun q => q.1 ≤ l.length ∧ q.2.1 ≤ q.1 ∧ OSl 3 1 (.slice q.2.2.1 q.2.1 q.2.2.2.1) q.2.1 (ints (((List.range q.1).filter fun j => (nd l j).eager).map (Ws[k]'(by omega)))) q.2.2.2.2) (fun q => [(0, .slice a l.length c), (1, .slice ia all.length ic), (6, .slice none 0 0), (7, .int .i64 0), (8, ptr b8), (10, .slice oa outs.length oc), (11, .int .i64 (k : Int)), (12, .slice q.2.2.1 q.2.1 q.2.2.2.1), (13, .int .i64 (q.1 : Int))]) (fun q => q.2.2.2.2 :: og :: (ins2 ++ ([(b8, Obj.cells (tdV t).toArray 92 (0, 0))] :: t.dg :: t.wg :: (t.ins ++ η)))) (fun q => l.length - q.1) (0, 0, none, 0, []) ⟨Nat.zero_le _, Nat.le_refl _, OSl.nil 3 1⟩ ⟨rfl, rfl, rfl, rfl, rfl, rfl, rfl, rfl, rfl, trivial⟩ rfl ?_
      rintro ⟨j, jn, qa, qc, qg⟩ ⟨hj, hjn, hq⟩
      dsimp only at hj hjn hq
      have hWL2 : k < (Ws.map (allL l)).length := by omega
      have hrowW : ∀ η', (∀ z ∈ t.wg :: t.ins, z ∈ η') → At S w0 η' (sAt t.wa (k * 1)) (.slice (pf k).1 l.length (pf k).2) ∧ Row S w0 η' (pf k).1 (ints (allL l (Ws[k]'(by omega)))) := fun η' hs => by
        have h := ((hpf η' hs).1 k hWL2)
        rw [hWk k hkl, allL_len] at h; exact h
      have hword : ∀ η', (∀ z ∈ t.wg :: t.ins, z ∈ η') → ∀ i, i < l.length → At S w0 η' (sAt (pf k).1 (i * 1)) (.int .i64 ((Ws[k]'(by omega)) i)) := fun η' hs i hi => by
        have h := (hrowW η' hs).2.int (i := i) (by rw [allL_len]; omega)
        rw [allL_get] at h; exact h
      have hwad := (hpf _ (fun _ h => h)).2 k hWL2
      refine T.seq ?_
      refine T.seq ?_
      refine T.region ?_
      refine TL.move hF rfl rfl ?_
      refine TL.move hF rfl rfl ?_
      refine TL.len hF rfl rfl ?_
      refine TL.bin hF rfl rfl rfl rfl ?_
      refine TL.nil ?_
      refine TQ.then_n ?_
      first | refine T.cond_d rfl (fun ht33 => ?_) (fun ht33 => ?_) | refine T.cond _ rfl (fun ht33 => ?_) (fun ht33 => ?_)
      · refine T.skip ?_
        refine TQ.then_n ?_
        refine T.seq ?_
        refine T.block ?_
        refine T.seq ?_
        refine T.region ?_
        refine TL.move hF rfl rfl ?_
        refine TL.move hF rfl rfl ?_
        refine TL.indexAddr hF rfl rfl (hn.ad (i := j) (by omega)) (by omega) (by omega) rfl ?_
        refine TL.fieldAddr hF rfl rfl ?_
        have hjl : j < l.length := by omega
        refine TL.load hF rfl (v := .bool (nd l j).eager) (by rw [nd_eq hjl]; exact hn.ro.at (i := j) hjl 3 rfl) rfl ?_
        refine TL.nil ?_
        refine TQ.then_n ?_
        refine T.cond _ rfl (fun hea => ?_) (fun hea => ?_)
        · refine T.region ?_
          refine TL.move hF rfl rfl ?_
          refine TL.fieldAddr hF rfl rfl ?_
          refine TL.load hF rfl (own_mem (cs := (tdV t).toArray) (e := 92) (fz := (0, 0)) (by simp) rfl) rfl ?_
          refine TL.move hF rfl rfl ?_
          refine TL.indexAddr hF rfl rfl hwad (by omega) (by omega) rfl ?_
          refine TL.load hF rfl (hrowW _ (fun z hz => by rcases List.mem_cons.1 hz with rfl | hz <;> simp [*])).1 rfl ?_
          refine TL.move hF rfl rfl ?_
          refine TL.indexAddr hF rfl rfl ((hrowW _ (fun _ h => h)).2.adi (i := j) (by rw [List.length_map, allL_len]; omega)) (by omega) (by omega) rfl ?_
          refine TL.load hF rfl (v := .int .i64 ((Ws[k]'(by omega)) j)) (hword _ (fun z hz => by rcases List.mem_cons.1 hz with rfl | hz <;> simp [*]) j (by omega)) rfl ?_
          refine TL.buildSlice hF rfl (cs := #[.int .i64 ((Ws[k]'(by omega)) j)]) (e := 3) (fun w => by kernel_rfl) rfl (fun b50 => ?_)
          refine TL.append hF 1 rfl rfl rfl hq (row_own (cs := [.int .i64 ((Ws[k]'(by omega)) j)]) (e := 3) List.mem_cons_self).src rfl rfl (by simp [Value.oneCell']) (by omega) (by omega) rfl (fun a' cap' seg' ho' => ?_)
          refine TL.assign hF rfl rfl ?_
          refine TL.nil ?_
          refine TQ.block_n ?_
          refine TQ.then_n ?_
          refine T.region ?_
          refine TL.move hF rfl rfl ?_
          refine TL.add hF rfl rfl (by omega) (by omega) rfl ?_
          refine TL.assign hF rfl rfl ?_
          refine TL.nil ?_
          refine TQ.pop ?_
          refine TQ.round (j + 1, jn + 1, a', cap', seg') ⟨by simp only; omega, by simp only; omega, ?_⟩ (by simp only; omega) ⟨rfl, rfl, rfl, rfl, rfl, rfl, rfl, rfl, rfl, trivial⟩ rfl
          have e : ints (((List.range (j + 1)).filter fun j => (nd l j).eager).map (Ws[k]'(by omega))) = ints (((List.range j).filter fun j => (nd l j).eager).map (Ws[k]'(by omega))) ++ [.int .i64 ((Ws[k]'(by omega)) j)] := by
            rw [List.range_succ, List.filter_append, List.filter_cons, hea, if_pos rfl, List.filter_nil, List.map_append, ints, List.map_append]; rfl
          dsimp only
          rw [e]; exact ho'
        · refine T.skip ?_
          refine TQ.block_n ?_
          refine TQ.then_n ?_
          refine T.region ?_
          refine TL.move hF rfl rfl ?_
          refine TL.add hF rfl rfl (by omega) (by omega) rfl ?_
          refine TL.assign hF rfl rfl ?_
          refine TL.nil ?_
          refine TQ.round (j + 1, jn, qa, qc, qg) ⟨by simp only; omega, by simp only; omega, ?_⟩ (by simp only; omega) ⟨rfl, rfl, rfl, rfl, rfl, rfl, rfl, rfl, rfl, trivial⟩ rfl
          have e : ints (((List.range (j + 1)).filter fun j => (nd l j).eager).map (Ws[k]'(by omega))) = ints (((List.range j).filter fun j => (nd l j).eager).map (Ws[k]'(by omega))) := by
            rw [List.range_succ, List.filter_append, List.filter_cons, hea, if_neg (by simp), List.filter_nil, List.append_nil]
          dsimp only
          rw [e]; exact hq
      · refine T.exit ?_
        refine TQ.then_x ?_
        refine TQ.then_x ?_
        refine TQ.block_x ?_
        refine TQ.then_n ?_
        refine T.region ?_
        refine TL.move hF rfl rfl ?_
        refine TL.move hF rfl rfl ?_
        have hjl : j = l.length := by omega
        subst hjl
        skip
        refine TL.buildSlice hF rfl (cs := #[.slice qa jn qc]) (e := 24) (fun w => by kernel_rfl) rfl (fun b54 => ?_)
        refine TL.append hF 2 rfl rfl rfl hos.o (row_own (cs := [.slice qa jn qc]) (e := 24) List.mem_cons_self).src rfl rfl (by simp [Value.oneCell']) (by omega) (by omega) rfl (fun a1 cap1 seg1 ho1 => ?_)
        refine TL.assign hF rfl rfl ?_
        refine TL.nil ?_
        refine TQ.block_n ?_
        refine TQ.then_n ?_
        refine T.region ?_
        refine TL.move hF rfl rfl ?_
        refine TL.add hF rfl rfl (by omega) (by omega) rfl ?_
        refine TL.assign hF rfl rfl ?_
        refine TL.nil ?_
        have hlo : (eagerOf l (Ws[k]'(by omega))).length = jn := by have := hq.len; simpa [eagerOf] using this
        refine TQ.pick [2, 1] [_, _, _] rfl rfl rfl ?_
        rw [← hlo] at ho1 hq ⊢
        refine TQ.round (k + 1, outs ++ [(.slice qa (eagerOf l (Ws[k]'(by omega))).length qc, (eagerOf l (Ws[k]'(by omega))), qg)], a1, cap1, seg1, qg :: ins2) ⟨by simp only; omega, hos.snoc1 ho1 hq, by simp only [List.length_append, List.length_singleton]; omega, ?_, fun z hz => ?_⟩ (by simp only; omega) ⟨rfl, rfl, rfl, rfl, rfl, congrArg (fun z : Nat => some (Value.slice a1 z cap1)) (by simp), rfl, trivial⟩ rfl
        · have e : (Ws.take (k + 1)).map (eagerOf l) = (Ws.take k).map (eagerOf l) ++ [(eagerOf l (Ws[k]'(by omega)))] := by rw [List.take_succ_eq_append_getElem (by omega), List.map_append]; rfl
          dsimp only
          rw [e, List.map_append, hom]; rfl
        · rcases List.mem_append.1 hz with h | h
          · exact List.mem_cons_of_mem _ (hoi z h)
          · rw [List.mem_singleton.1 h]; exact List.mem_cons_self
    · refine T.exit ?_
      refine TQ.then_x ?_
      refine TQ.then_x ?_
      refine TQ.block_x ?_
      refine TQ.then_n ?_
      refine T.seq ?_
      refine T.region ?_
      refine TL.move hF rfl rfl ?_
      refine TL.assign hF rfl rfl ?_
      refine TL.assign hF rfl rfl ?_
      refine TL.nil ?_
      refine TQ.then_n ?_
      refine T.ret ?_
      have hkn : k = all.length := by omega
      have e : eagerS l all pick = (outs.map (·.2.1), 0) := by
        unfold eagerS; rw [if_pos hck0, htold]
        rw [hkn] at hom
        rw [List.take_of_length_le (by omega)] at hom
        rw [hom]
      refine TQ.rets [6, 7] _ rfl rfl rfl ?_
      rw [e]
      exact ⟨oa, oc, og :: (ins2 ++ ([(b8, Obj.cells (tdV t).toArray 92 (0, 0))] :: t.dg :: t.wg :: t.ins)), by simp [retVal], by simp, hos.lists (by simp) (fun z hz => by have := hoi z hz; simp [this])⟩
end Go.Proofs.YtefkmiomldhmjaaDoor
/- The document's examples: nodes, instants, and what they lead to. -/
namespace Go.Proofs.YtefkmiomldhmjaaDoor
open Go.Sl
/-- Which nodes are wanted, to be computed. -/
def needB (l : List NodeD) (asks : List Int) : Nat → Nat → Bool
  | 0, _ => false
  | f + 1, i => isRoot l asks i || (List.range l.length).any fun p => decide (i < p) && (decide ((i : Int) ∈ (nd l p).fr) && needB l asks f p)
def wantB (l : List NodeD) (asks : List Int) (i : Nat) : Bool := decide ((nd l i).op ≠ 0) && needB l asks (l.length - i) i
theorem needB_iff {l : List NodeD} {asks : List Int} (hok : Ok l) : ∀ f i, i < l.length → l.length - i ≤ f → (needB l asks f i = true ↔ QP l asks i)
  | 0, i, h, h2 => by omega
  | f + 1, i, h, h2 => by
    rw [QP.iff hok h]
    simp only [needB, Bool.or_eq_true, List.any_eq_true, List.mem_range, Bool.and_eq_true, decide_eq_true_eq]
    constructor
    · rintro (h1 | ⟨p, hp, h3, h4, h5⟩)
      · exact .inl h1
      · exact .inr ⟨p, h3, hp, (needB_iff hok f p hp (by omega)).1 h5, h4⟩
    · rintro (h1 | ⟨p, h3, hp, h5, h4⟩)
      · exact .inl h1
      · exact .inr ⟨p, hp, h3, h4, (needB_iff hok f p hp (by omega)).2 h5⟩
theorem nd_out {l : List NodeD} {i : Nat} (h : l.length ≤ i) : nd l i = default := by unfold nd; rw [List.getD_eq_getElem?_getD, List.getElem?_eq_none h]; rfl
theorem wantS_eq {l : List NodeD} {asks : List Int} (hok : Ok l) : wantS l asks = wantB l asks := by
  funext i
  rw [Bool.eq_iff_iff, wantS_iff]
  unfold wantB WantP
  by_cases h : i < l.length
  · rw [Bool.and_eq_true, decide_eq_true_eq, needB_iff hok _ i h (Nat.le_refl _)]; rfl
  · have e : (nd l i).op = 0 := by rw [nd_out (by omega)]; rfl
    simp [e]
def instC (l : List NodeD) (x : InstD) (now : Nat) (pick : List Int) (s : St) : List DoneD × Nat × St := runI l (wantB l x.asks) now pick l.length (afterSets x now s)
def allC (l : List NodeD) (pick : List Int) : List InstD → Nat → St → List DoneD × Nat × List (Nat → Int)
  | [], _, _ => ([], 0, [])
  | x :: r, now, s =>
    let z := instC l x now pick s
    let y := allC l pick r (now + 1) z.2.2
    (z.1 ++ y.1, z.2.1 + y.2.1, z.2.2.W :: y.2.2)
theorem allS_eq {l : List NodeD} (hok : Ok l) (pick : List Int) : ∀ all now s, allS l pick all now s = allC l pick all now s
  | [], _, _ => rfl
  | x :: r, now, s => by
    simp only [allS, allC, instS, instC, wantS_eq hok, allS_eq hok pick r]
def exN (b3 b5 b7 b9 : Nat) : List NodeD := [⟨0, 2, none, [], 0, false⟩, ⟨0, 5, none, [], 0, false⟩, ⟨1, 0, some ⟨b3, 0, none⟩, [0, 1], 2, false⟩, ⟨3, 2, some ⟨b5, 0, none⟩, [2], 1, false⟩, ⟨2, 0, some ⟨b7, 0, none⟩, [3, 0], 2, true⟩, ⟨1, 1, some ⟨b9, 0, none⟩, [4, 2], 2, false⟩]
def exI (b3 b6 b7 b9 : Nat) : List InstD := [⟨none, [], 0, none, [], 0⟩, ⟨some ⟨b3, 0, none⟩, [⟨0, 4⟩], 1, none, [], 0⟩, ⟨some ⟨b6, 0, none⟩, [⟨1, 6⟩], 1, some ⟨b7, 0, none⟩, [5], 1⟩, ⟨none, [], 0, some ⟨b9, 0, none⟩, [5], 1⟩]
def exD : List DoneD := [⟨0, 2, 7, true⟩, ⟨0, 3, 1, true⟩, ⟨0, 4, 2, true⟩, ⟨1, 2, 9, true⟩, ⟨1, 3, 1, false⟩, ⟨1, 4, 4, true⟩, ⟨2, 2, 10, true⟩, ⟨2, 3, 0, true⟩, ⟨2, 4, 4, false⟩, ⟨2, 5, 15, true⟩]
section
variable {a b c d e f g h : Nat}
theorem exN_valid : valid (exN a b c d) = true := by kernel_rfl
theorem exN_ok : Ok (exN a b c d) := ok_of exN_valid
theorem exN_len : (exN a b c d).length = 6 := rfl
theorem exI_len : (exI a b c d).length = 4 := rfl
theorem ex_heights : heightsS (exN a b c d) = ([0, 0, 1, 2, 3, 4], 0) := by kernel_rfl
theorem ex_scratch : scratchS (exN a b c d) [4, 6] = ([4, 6, 10, 0, 4, 15], 0) := by kernel_rfl
theorem ex_run : runS (exN a b c d) (exI e f g h) [] = (exD, 0) := by
  unfold runS toldS; rw [allS_eq exN_ok]; kernel_rfl
theorem ex_asked : askedS (exN a b c d) (exI e f g h) [3, 1] = ([[], [], [15], [15]], 0) := by
  unfold askedS toldS; rw [allS_eq exN_ok]; kernel_rfl
theorem ex_eager : eagerS (exN a b c d) (exI e f g h) [0, 2, 1] = ([[2], [4], [4], [4]], 0) := by
  unfold eagerS toldS; rw [allS_eq exN_ok]; kernel_rfl
theorem ex_looked : lookedS (exN a b c d) (exI e f g h) [7] = (14, 10, 0) := by
  unfold lookedS toldS; rw [allS_eq exN_ok]; kernel_rfl
end
end Go.Proofs.YtefkmiomldhmjaaDoor
/- The first law. -/
namespace Go.Proofs.YtefkmiomldhmjaaDoor
open Go.Sl
variable {S : Nat → Prop} {w0 : World} {η : Heap}
set_option maxHeartbeats 2000000 in
theorem nodes_fn  :
    Rt Tryd.prog 32 [].toArray S w0 η (fun v η' => ∃ b3 b5 b7 b9 b11 segs, v = .slice (some ⟨b11, 0, none⟩) (exN b3 b5 b7 b9).length 6 ∧ η' = segs ++ η ∧ Nodes S w0 segs (some ⟨b11, 0, none⟩) (exN b3 b5 b7 b9)) := by
  have hF := open_wide
  refine Rt.of (fn := Tryd.f32) Tryd.func32 rfl rfl ?_
  refine T.seq ?_
  refine T.region ?_
  refine TL.assign hF rfl rfl ?_
  refine TL.nil ?_
  refine TQ.then_n ?_
  refine T.seq ?_
  refine T.region ?_
  refine TL.build hF rfl (r := (.agg #[.int .i64 0, .int .i64 2, .slice none 0 0, .bool false])) (fun w => by kernel_rfl) rfl ?_
  refine TL.build hF rfl (r := (.agg #[.int .i64 0, .int .i64 5, .slice none 0 0, .bool false])) (fun w => by kernel_rfl) rfl ?_
  refine TL.buildSlice hF rfl (cs := (ints [0, 1]).toArray) (e := 3) (fun w => by kernel_rfl) rfl (fun b3 => ?_)
  refine TL.build hF rfl (r := (.agg #[.int .i64 1, .int .i64 0, .slice (some ⟨b3, 0, none⟩) 2 2, .bool false])) (fun w => by kernel_rfl) rfl ?_
  refine TL.buildSlice hF rfl (cs := (ints [2]).toArray) (e := 3) (fun w => by kernel_rfl) rfl (fun b5 => ?_)
  refine TL.build hF rfl (r := (.agg #[.int .i64 3, .int .i64 2, .slice (some ⟨b5, 0, none⟩) 1 1, .bool false])) (fun w => by kernel_rfl) rfl ?_
  refine TL.buildSlice hF rfl (cs := (ints [3, 0]).toArray) (e := 3) (fun w => by kernel_rfl) rfl (fun b7 => ?_)
  refine TL.build hF rfl (r := (.agg #[.int .i64 2, .int .i64 0, .slice (some ⟨b7, 0, none⟩) 2 2, .bool true])) (fun w => by kernel_rfl) rfl ?_
  refine TL.buildSlice hF rfl (cs := (ints [4, 2]).toArray) (e := 3) (fun w => by kernel_rfl) rfl (fun b9 => ?_)
  refine TL.build hF rfl (r := (.agg #[.int .i64 1, .int .i64 1, .slice (some ⟨b9, 0, none⟩) 2 2, .bool false])) (fun w => by kernel_rfl) rfl ?_
  refine TL.buildSlice hF rfl (cs := ((exN b3 b5 b7 b9).flatMap NodeD.cells).toArray) (e := 55) (fun w => by kernel_rfl) rfl (fun b11 => ?_)
  refine TL.assign hF rfl rfl ?_
  refine TL.nil ?_
  refine TQ.then_n ?_
  refine T.ret ?_
  refine TQ.rets [0] _ rfl rfl rfl ?_
  refine ⟨b3, b5, b7, b9, b11, [[(b11, Obj.cells ((exN b3 b5 b7 b9).flatMap NodeD.cells).toArray 55 (0, 0))], [(b9, Obj.cells (ints [4, 2]).toArray 3 (0, 0))], [(b7, Obj.cells (ints [3, 0]).toArray 3 (0, 0))], [(b5, Obj.cells (ints [2]).toArray 3 (0, 0))], [(b3, Obj.cells (ints [0, 1]).toArray 3 (0, 0))]], rfl, rfl, row_own (e := 55) (by simp), fun x hx => ?_⟩
  simp only [exN, List.mem_cons, List.not_mem_nil, or_false] at hx
  rcases hx with rfl | rfl | rfl | rfl | rfl | rfl
  · exact Row.none
  · exact Row.none
  · exact row_own (cs := ints [0, 1]) (e := 3) (by simp)
  · exact row_own (cs := ints [2]) (e := 3) (by simp)
  · exact row_own (cs := ints [3, 0]) (e := 3) (by simp)
  · exact row_own (cs := ints [4, 2]) (e := 3) (by simp)
set_option maxHeartbeats 2000000 in
theorem instants_fn  :
    Rt Tryd.prog 33 [].toArray S w0 η (fun v η' => ∃ b3 b6 b7 b9 b11 segs, v = .slice (some ⟨b11, 0, none⟩) (exI b3 b6 b7 b9).length 4 ∧ η' = segs ++ η ∧ Insts S w0 segs (some ⟨b11, 0, none⟩) (exI b3 b6 b7 b9)) := by
  have hF := open_wide
  refine Rt.of (fn := Tryd.f33) Tryd.func33 rfl rfl ?_
  refine T.seq ?_
  refine T.region ?_
  refine TL.assign hF rfl rfl ?_
  refine TL.nil ?_
  refine TQ.then_n ?_
  refine T.seq ?_
  refine T.region ?_
  refine TL.build hF rfl (r := (.agg #[.slice none 0 0, .slice none 0 0])) (fun w => by kernel_rfl) rfl ?_
  refine TL.build hF rfl (r := (.agg #[.int .i64 0, .int .i64 4])) (fun w => by kernel_rfl) rfl ?_
  refine TL.buildSlice hF rfl (cs := (SetD.cells ⟨0, 4⟩).toArray) (e := 68) (fun w => by kernel_rfl) rfl (fun b3 => ?_)
  refine TL.build hF rfl (r := (.agg #[.slice (some ⟨b3, 0, none⟩) 1 1, .slice none 0 0])) (fun w => by kernel_rfl) rfl ?_
  refine TL.build hF rfl (r := (.agg #[.int .i64 1, .int .i64 6])) (fun w => by kernel_rfl) rfl ?_
  refine TL.buildSlice hF rfl (cs := (SetD.cells ⟨1, 6⟩).toArray) (e := 68) (fun w => by kernel_rfl) rfl (fun b6 => ?_)
  refine TL.buildSlice hF rfl (cs := (ints [5]).toArray) (e := 3) (fun w => by kernel_rfl) rfl (fun b7 => ?_)
  refine TL.build hF rfl (r := (.agg #[.slice (some ⟨b6, 0, none⟩) 1 1, .slice (some ⟨b7, 0, none⟩) 1 1])) (fun w => by kernel_rfl) rfl ?_
  refine TL.buildSlice hF rfl (cs := (ints [5]).toArray) (e := 3) (fun w => by kernel_rfl) rfl (fun b9 => ?_)
  refine TL.build hF rfl (r := (.agg #[.slice none 0 0, .slice (some ⟨b9, 0, none⟩) 1 1])) (fun w => by kernel_rfl) rfl ?_
  refine TL.buildSlice hF rfl (cs := ((exI b3 b6 b7 b9).flatMap InstD.cells).toArray) (e := 50) (fun w => by kernel_rfl) rfl (fun b11 => ?_)
  refine TL.assign hF rfl rfl ?_
  refine TL.nil ?_
  refine TQ.then_n ?_
  refine T.ret ?_
  refine TQ.rets [0] _ rfl rfl rfl ?_
  refine ⟨b3, b6, b7, b9, b11, [[(b11, Obj.cells ((exI b3 b6 b7 b9).flatMap InstD.cells).toArray 50 (0, 0))], [(b9, Obj.cells (ints [5]).toArray 3 (0, 0))], [(b7, Obj.cells (ints [5]).toArray 3 (0, 0))], [(b6, Obj.cells (SetD.cells ⟨1, 6⟩).toArray 68 (0, 0))], [(b3, Obj.cells (SetD.cells ⟨0, 4⟩).toArray 68 (0, 0))]], rfl, rfl, row_own (e := 50) (by simp), fun x hx => ?_, fun x hx => ?_⟩
  · simp only [exI, List.mem_cons, List.not_mem_nil, or_false] at hx
    rcases hx with rfl | rfl | rfl | rfl
    · exact Row.none
    · exact row_own (cs := SetD.cells ⟨0, 4⟩) (e := 68) (by simp)
    · exact row_own (cs := SetD.cells ⟨1, 6⟩) (e := 68) (by simp)
    · exact Row.none
  · simp only [exI, List.mem_cons, List.not_mem_nil, or_false] at hx
    rcases hx with rfl | rfl | rfl | rfl
    · exact Row.none
    · exact Row.none
    · exact row_own (cs := ints [5]) (e := 3) (by simp)
    · exact row_own (cs := ints [5]) (e := 3) (by simp)
theorem EqT_fn {a b : Option Addr} {xs ys : List Int} {ca cb : Nat} (hx : Row S w0 η a (ints xs)) (hy : Row S w0 η b (ints ys)) (he : xs = ys) (hl : xs.length < 2 ^ 63) : Rt Tryd.prog 16 [.slice a xs.length ca, .slice b ys.length cb].toArray S w0 η (fun v η' => v = .bool true ∧ η' = η) := by
  have h := Equal_fn (ca := ca) (cb := cb) hx hy hl
  rw [decide_eq_true he] at h; exact h
theorem EqLT_fn {a b : Option Addr} {xs ys : List (List Int)} {ca cb : Nat} (hx : Lists S w0 η a xs) (hy : Lists S w0 η b ys) (he : xs = ys) (hl : xs.length < 2 ^ 63) (hlx : ∀ l ∈ xs, l.length < 2 ^ 63) : Rt Tryd.prog 26 [.slice a xs.length ca, .slice b ys.length cb].toArray S w0 η (fun v η' => v = .bool true ∧ η' = η) := by
  have h := EqualLists_fn (ca := ca) (cb := cb) hx hy hl hlx
  rw [decide_eq_true he] at h; exact h
theorem SameT_fn {a b : Option Addr} {xs ys : List DoneD} {ca cb : Nat} (hx : Row S w0 η a (xs.flatMap DoneD.cells)) (hy : Row S w0 η b (ys.flatMap DoneD.cells)) (he : xs = ys) (hl : xs.length < 2 ^ 63) : Rt Tryd.prog 25 [.slice a xs.length ca, .slice b ys.length cb].toArray S w0 η (fun v η' => v = .bool true ∧ η' = η) := by
  have h := Same_fn (ca := ca) (cb := cb) hx hy hl
  rw [decide_eq_true he] at h; exact h
theorem ex_lists {b4 b5 b6 b7 _b : Nat} {n1 n2 : List Int} (_h4 : Row S w0 η (some ⟨b4, 0, none⟩) (ints n1)) (_h5 : Row S w0 η (some ⟨b5, 0, none⟩) (ints n2)) (_h6 : Row S w0 η (some ⟨b6, 0, none⟩) (ints n1)) (_h7 : Row S w0 η (some ⟨b7, 0, none⟩) (ints n2)) : True := trivial

set_option maxHeartbeats 2000000 in
theorem awake_fn (hg : Kinds S w0) :
    Rt Tryd.prog 11 [].toArray S w0 [] (fun v _ => v = .bool true) := by
  have hF := open_wide
  refine Rt.of (fn := Tryd.f11) Tryd.func11 rfl rfl ?_
  refine T.seq ?_
  refine T.region ?_
  have hb := Back.refl S w0
  refine TL.assign hF rfl rfl ?_
  refine TL.nil ?_
  refine TQ.then_n ?_
  refine T.seq ?_
  refine T.region ?_
  refine TL.call hF (nodes_fn) rfl rfl ?_
  rintro _ _ ⟨p1, q1, r1, t1, n1, s1, rfl, rfl, hn1⟩
  refine TL.freeze s1 rfl (fun S1 w1 hz1 => ?_)
  have hb := hb.frz hz1
  have hg := hg.old hz1
  have hn1 := hn1.frz hz1
  refine TL.call hF (Heights_prog hg hn1 (by simp [exN]) (fun x hx => by simp only [exN, List.mem_cons, List.not_mem_nil, or_false] at hx; rcases hx with rfl | rfl | rfl | rfl | rfl | rfl <;> simp)) rfl rfl ?_
  rintro _ _ ⟨a1, c1, s2, rfl, rfl, j1⟩
  rw [ex_heights] at j1 ⊢
  dsimp only at j1 ⊢
  refine TL.freeze s2 rfl (fun S2 w2 hz2 => ?_)
  have hb := hb.frz hz2
  have hg := hg.old hz2
  have j1 := j1.frz hz2
  have hn1 := hn1.old hz2
  refine TL.move hF rfl rfl ?_
  refine TL.extract hF rfl rfl rfl ?_
  refine TL.extract hF rfl rfl rfl ?_
  refine TL.assign hF rfl rfl ?_
  refine TL.assign hF rfl rfl ?_
  refine TL.nil ?_
  refine TQ.then_n ?_
  refine T.seq ?_
  refine T.region ?_
  refine TL.call hF (nodes_fn) rfl rfl ?_
  rintro _ _ ⟨p2, q2, r2, t2, n2, s3, rfl, rfl, hn2⟩
  refine TL.freeze s3 rfl (fun S3 w3 hz3 => ?_)
  have hb := hb.frz hz3
  have hg := hg.old hz3
  have hn2 := hn2.frz hz3
  have hn1 := hn1.old hz3
  have j1 := j1.old hz3
  refine TL.buildSlice hF rfl (cs := (ints [4, 6]).toArray) (e := 3) (fun w => by kernel_rfl) rfl (fun b22 => ?_)
  have hw2 : Row S3 w3 [[(b22, Obj.cells (ints [4, 6]).toArray 3 (0, 0))]] (some ⟨b22, 0, none⟩) (ints [4, 6]) := row_own (e := 3) (by simp)
  refine TL.freeze [[(b22, Obj.cells (ints [4, 6]).toArray 3 (0, 0))]] rfl (fun S4 w4 hz4 => ?_)
  have hb := hb.frz hz4
  have hg := hg.old hz4
  have hw2 := hw2.frz hz4
  have hn1 := hn1.old hz4
  have j1 := j1.old hz4
  have hn2 := hn2.old hz4
  refine TL.call hF (Scratch_prog hg hn2 (by simp [exN]) (fun x hx => by simp only [exN, List.mem_cons, List.not_mem_nil, or_false] at hx; rcases hx with rfl | rfl | rfl | rfl | rfl | rfl <;> simp) (ws := [4, 6]) hw2 (by simp)) rfl rfl ?_
  rintro _ _ ⟨a2, c2, s5, rfl, rfl, j2⟩
  rw [ex_scratch] at j2 ⊢
  dsimp only at j2 ⊢
  refine TL.freeze s5 rfl (fun S5 w5 hz5 => ?_)
  have hb := hb.frz hz5
  have hg := hg.old hz5
  have j2 := j2.frz hz5
  have hn1 := hn1.old hz5
  have j1 := j1.old hz5
  have hn2 := hn2.old hz5
  have hw2 := hw2.old hz5
  refine TL.move hF rfl rfl ?_
  refine TL.extract hF rfl rfl rfl ?_
  refine TL.extract hF rfl rfl rfl ?_
  refine TL.assign hF rfl rfl ?_
  refine TL.assign hF rfl rfl ?_
  refine TL.nil ?_
  refine TQ.then_n ?_
  refine T.seq ?_
  refine T.region ?_
  refine TL.call hF (nodes_fn) rfl rfl ?_
  rintro _ _ ⟨p3, q3, r3, t3, n3, s6, rfl, rfl, hn3⟩
  refine TL.freeze s6 rfl (fun S6 w6 hz6 => ?_)
  have hb := hb.frz hz6
  have hg := hg.old hz6
  have hn3 := hn3.frz hz6
  have hn1 := hn1.old hz6
  have j1 := j1.old hz6
  have hn2 := hn2.old hz6
  have hw2 := hw2.old hz6
  have j2 := j2.old hz6
  refine TL.call hF (instants_fn) rfl rfl ?_
  rintro _ _ ⟨u3, v3, x3, y3, m3, s7, rfl, rfl, hi3⟩
  refine TL.freeze s7 rfl (fun S7 w7 hz7 => ?_)
  have hb := hb.frz hz7
  have hg := hg.old hz7
  have hi3 := hi3.frz hz7
  have hn1 := hn1.old hz7
  have j1 := j1.old hz7
  have hn2 := hn2.old hz7
  have hw2 := hw2.old hz7
  have j2 := j2.old hz7
  have hn3 := hn3.old hz7
  refine TL.call hF (Run_prog hg hn3 hi3 (pick := []) Row.none (by simp [exN]) (fun x hx => by simp only [exN, List.mem_cons, List.not_mem_nil, or_false] at hx; rcases hx with rfl | rfl | rfl | rfl | rfl | rfl <;> simp) (by simp [exI]) (by simp)) rfl rfl ?_
  rintro _ _ ⟨a3, c3, s8, rfl, rfl, j3⟩
  rw [ex_run] at j3 ⊢
  dsimp only at j3 ⊢
  refine TL.freeze s8 rfl (fun S8 w8 hz8 => ?_)
  have hb := hb.frz hz8
  have hg := hg.old hz8
  have j3 := j3.frz hz8
  have hn1 := hn1.old hz8
  have j1 := j1.old hz8
  have hn2 := hn2.old hz8
  have hw2 := hw2.old hz8
  have j2 := j2.old hz8
  have hn3 := hn3.old hz8
  have hi3 := hi3.old hz8
  refine TL.move hF rfl rfl ?_
  refine TL.extract hF rfl rfl rfl ?_
  refine TL.extract hF rfl rfl rfl ?_
  refine TL.assign hF rfl rfl ?_
  refine TL.assign hF rfl rfl ?_
  refine TL.nil ?_
  refine TQ.then_n ?_
  refine T.seq ?_
  refine T.region ?_
  refine TL.call hF (nodes_fn) rfl rfl ?_
  rintro _ _ ⟨p4, q4, r4, t4, n4, s9, rfl, rfl, hn4⟩
  refine TL.freeze s9 rfl (fun S9 w9 hz9 => ?_)
  have hb := hb.frz hz9
  have hg := hg.old hz9
  have hn4 := hn4.frz hz9
  have hn1 := hn1.old hz9
  have j1 := j1.old hz9
  have hn2 := hn2.old hz9
  have hw2 := hw2.old hz9
  have j2 := j2.old hz9
  have hn3 := hn3.old hz9
  have hi3 := hi3.old hz9
  have j3 := j3.old hz9
  refine TL.call hF (instants_fn) rfl rfl ?_
  rintro _ _ ⟨u4, v4, x4, y4, m4, s10, rfl, rfl, hi4⟩
  refine TL.freeze s10 rfl (fun S10 w10 hz10 => ?_)
  have hb := hb.frz hz10
  have hg := hg.old hz10
  have hi4 := hi4.frz hz10
  have hn1 := hn1.old hz10
  have j1 := j1.old hz10
  have hn2 := hn2.old hz10
  have hw2 := hw2.old hz10
  have j2 := j2.old hz10
  have hn3 := hn3.old hz10
  have hi3 := hi3.old hz10
  have j3 := j3.old hz10
  have hn4 := hn4.old hz10
  refine TL.buildSlice hF rfl (cs := (ints [3, 1]).toArray) (e := 3) (fun w => by kernel_rfl) rfl (fun b35 => ?_)
  have hw4 : Row S10 w10 [[(b35, Obj.cells (ints [3, 1]).toArray 3 (0, 0))]] (some ⟨b35, 0, none⟩) (ints [3, 1]) := row_own (e := 3) (by simp)
  refine TL.freeze [[(b35, Obj.cells (ints [3, 1]).toArray 3 (0, 0))]] rfl (fun S11 w11 hz11 => ?_)
  have hb := hb.frz hz11
  have hg := hg.old hz11
  have hw4 := hw4.frz hz11
  have hn1 := hn1.old hz11
  have j1 := j1.old hz11
  have hn2 := hn2.old hz11
  have hw2 := hw2.old hz11
  have j2 := j2.old hz11
  have hn3 := hn3.old hz11
  have hi3 := hi3.old hz11
  have j3 := j3.old hz11
  have hn4 := hn4.old hz11
  have hi4 := hi4.old hz11
  refine TL.call hF (Asked_prog hg hn4 hi4 (pick := [3, 1]) hw4 (by simp [exN]) (fun x hx => by simp only [exN, List.mem_cons, List.not_mem_nil, or_false] at hx; rcases hx with rfl | rfl | rfl | rfl | rfl | rfl <;> simp) (by simp [exI]) (by simp)) rfl rfl ?_
  rintro _ _ ⟨a4, c4, s12, rfl, rfl, j4⟩
  rw [ex_asked] at j4 ⊢
  dsimp only at j4 ⊢
  refine TL.freeze s12 rfl (fun S12 w12 hz12 => ?_)
  have hb := hb.frz hz12
  have hg := hg.old hz12
  have j4 := j4.frz hz12
  have hn1 := hn1.old hz12
  have j1 := j1.old hz12
  have hn2 := hn2.old hz12
  have hw2 := hw2.old hz12
  have j2 := j2.old hz12
  have hn3 := hn3.old hz12
  have hi3 := hi3.old hz12
  have j3 := j3.old hz12
  have hn4 := hn4.old hz12
  have hi4 := hi4.old hz12
  have hw4 := hw4.old hz12
  refine TL.move hF rfl rfl ?_
  refine TL.extract hF rfl rfl rfl ?_
  refine TL.extract hF rfl rfl rfl ?_
  refine TL.assign hF rfl rfl ?_
  refine TL.assign hF rfl rfl ?_
  refine TL.nil ?_
  refine TQ.then_n ?_
  refine T.seq ?_
  refine T.region ?_
  refine TL.call hF (nodes_fn) rfl rfl ?_
  rintro _ _ ⟨p5, q5, r5, t5, n5, s13, rfl, rfl, hn5⟩
  refine TL.freeze s13 rfl (fun S13 w13 hz13 => ?_)
  have hb := hb.frz hz13
  have hg := hg.old hz13
  have hn5 := hn5.frz hz13
  have hn1 := hn1.old hz13
  have j1 := j1.old hz13
  have hn2 := hn2.old hz13
  have hw2 := hw2.old hz13
  have j2 := j2.old hz13
  have hn3 := hn3.old hz13
  have hi3 := hi3.old hz13
  have j3 := j3.old hz13
  have hn4 := hn4.old hz13
  have hi4 := hi4.old hz13
  have hw4 := hw4.old hz13
  have j4 := j4.old hz13
  refine TL.call hF (instants_fn) rfl rfl ?_
  rintro _ _ ⟨u5, v5, x5, y5, m5, s14, rfl, rfl, hi5⟩
  refine TL.freeze s14 rfl (fun S14 w14 hz14 => ?_)
  have hb := hb.frz hz14
  have hg := hg.old hz14
  have hi5 := hi5.frz hz14
  have hn1 := hn1.old hz14
  have j1 := j1.old hz14
  have hn2 := hn2.old hz14
  have hw2 := hw2.old hz14
  have j2 := j2.old hz14
  have hn3 := hn3.old hz14
  have hi3 := hi3.old hz14
  have j3 := j3.old hz14
  have hn4 := hn4.old hz14
  have hi4 := hi4.old hz14
  have hw4 := hw4.old hz14
  have j4 := j4.old hz14
  have hn5 := hn5.old hz14
  refine TL.buildSlice hF rfl (cs := (ints [0, 2, 1]).toArray) (e := 3) (fun w => by kernel_rfl) rfl (fun b42 => ?_)
  have hw5 : Row S14 w14 [[(b42, Obj.cells (ints [0, 2, 1]).toArray 3 (0, 0))]] (some ⟨b42, 0, none⟩) (ints [0, 2, 1]) := row_own (e := 3) (by simp)
  refine TL.freeze [[(b42, Obj.cells (ints [0, 2, 1]).toArray 3 (0, 0))]] rfl (fun S15 w15 hz15 => ?_)
  have hb := hb.frz hz15
  have hg := hg.old hz15
  have hw5 := hw5.frz hz15
  have hn1 := hn1.old hz15
  have j1 := j1.old hz15
  have hn2 := hn2.old hz15
  have hw2 := hw2.old hz15
  have j2 := j2.old hz15
  have hn3 := hn3.old hz15
  have hi3 := hi3.old hz15
  have j3 := j3.old hz15
  have hn4 := hn4.old hz15
  have hi4 := hi4.old hz15
  have hw4 := hw4.old hz15
  have j4 := j4.old hz15
  have hn5 := hn5.old hz15
  have hi5 := hi5.old hz15
  refine TL.call hF (Eager_prog hg hn5 hi5 (pick := [0, 2, 1]) hw5 (by simp [exN]) (fun x hx => by simp only [exN, List.mem_cons, List.not_mem_nil, or_false] at hx; rcases hx with rfl | rfl | rfl | rfl | rfl | rfl <;> simp) (by simp [exI]) (by simp)) rfl rfl ?_
  rintro _ _ ⟨a5, c5, s16, rfl, rfl, j5⟩
  rw [ex_eager] at j5 ⊢
  dsimp only at j5 ⊢
  refine TL.freeze s16 rfl (fun S16 w16 hz16 => ?_)
  have hb := hb.frz hz16
  have hg := hg.old hz16
  have j5 := j5.frz hz16
  have hn1 := hn1.old hz16
  have j1 := j1.old hz16
  have hn2 := hn2.old hz16
  have hw2 := hw2.old hz16
  have j2 := j2.old hz16
  have hn3 := hn3.old hz16
  have hi3 := hi3.old hz16
  have j3 := j3.old hz16
  have hn4 := hn4.old hz16
  have hi4 := hi4.old hz16
  have hw4 := hw4.old hz16
  have j4 := j4.old hz16
  have hn5 := hn5.old hz16
  have hi5 := hi5.old hz16
  have hw5 := hw5.old hz16
  refine TL.move hF rfl rfl ?_
  refine TL.extract hF rfl rfl rfl ?_
  refine TL.extract hF rfl rfl rfl ?_
  refine TL.assign hF rfl rfl ?_
  refine TL.assign hF rfl rfl ?_
  refine TL.nil ?_
  refine TQ.then_n ?_
  refine T.seq ?_
  refine T.region ?_
  refine TL.call hF (nodes_fn) rfl rfl ?_
  rintro _ _ ⟨p6, q6, r6, t6, n6, s17, rfl, rfl, hn6⟩
  refine TL.freeze s17 rfl (fun S17 w17 hz17 => ?_)
  have hb := hb.frz hz17
  have hg := hg.old hz17
  have hn6 := hn6.frz hz17
  have hn1 := hn1.old hz17
  have j1 := j1.old hz17
  have hn2 := hn2.old hz17
  have hw2 := hw2.old hz17
  have j2 := j2.old hz17
  have hn3 := hn3.old hz17
  have hi3 := hi3.old hz17
  have j3 := j3.old hz17
  have hn4 := hn4.old hz17
  have hi4 := hi4.old hz17
  have hw4 := hw4.old hz17
  have j4 := j4.old hz17
  have hn5 := hn5.old hz17
  have hi5 := hi5.old hz17
  have hw5 := hw5.old hz17
  have j5 := j5.old hz17
  refine TL.call hF (instants_fn) rfl rfl ?_
  rintro _ _ ⟨u6, v6, x6, y6, m6, s18, rfl, rfl, hi6⟩
  refine TL.freeze s18 rfl (fun S18 w18 hz18 => ?_)
  have hb := hb.frz hz18
  have hg := hg.old hz18
  have hi6 := hi6.frz hz18
  have hn1 := hn1.old hz18
  have j1 := j1.old hz18
  have hn2 := hn2.old hz18
  have hw2 := hw2.old hz18
  have j2 := j2.old hz18
  have hn3 := hn3.old hz18
  have hi3 := hi3.old hz18
  have j3 := j3.old hz18
  have hn4 := hn4.old hz18
  have hi4 := hi4.old hz18
  have hw4 := hw4.old hz18
  have j4 := j4.old hz18
  have hn5 := hn5.old hz18
  have hi5 := hi5.old hz18
  have hw5 := hw5.old hz18
  have j5 := j5.old hz18
  have hn6 := hn6.old hz18
  refine TL.buildSlice hF rfl (cs := (ints [7]).toArray) (e := 3) (fun w => by kernel_rfl) rfl (fun b49 => ?_)
  have hw6 : Row S18 w18 [[(b49, Obj.cells (ints [7]).toArray 3 (0, 0))]] (some ⟨b49, 0, none⟩) (ints [7]) := row_own (e := 3) (by simp)
  refine TL.freeze [[(b49, Obj.cells (ints [7]).toArray 3 (0, 0))]] rfl (fun S19 w19 hz19 => ?_)
  have hb := hb.frz hz19
  have hg := hg.old hz19
  have hw6 := hw6.frz hz19
  have hn1 := hn1.old hz19
  have j1 := j1.old hz19
  have hn2 := hn2.old hz19
  have hw2 := hw2.old hz19
  have j2 := j2.old hz19
  have hn3 := hn3.old hz19
  have hi3 := hi3.old hz19
  have j3 := j3.old hz19
  have hn4 := hn4.old hz19
  have hi4 := hi4.old hz19
  have hw4 := hw4.old hz19
  have j4 := j4.old hz19
  have hn5 := hn5.old hz19
  have hi5 := hi5.old hz19
  have hw5 := hw5.old hz19
  have j5 := j5.old hz19
  have hn6 := hn6.old hz19
  have hi6 := hi6.old hz19
  refine TL.call hF (Looked_prog (pick := [7]) hg hn6 hi6 hw6 (by simp [exN]) (fun x hx => by simp only [exN, List.mem_cons, List.not_mem_nil, or_false] at hx; rcases hx with rfl | rfl | rfl | rfl | rfl | rfl <;> simp) (by simp [exI]) (by simp)) rfl rfl ?_
  rintro _ _ ⟨rfl, s99, rfl⟩
  rw [ex_looked]
  dsimp only
  refine TL.hsub [] (List.nil_sublist _) ?_
  refine TL.move hF rfl rfl ?_
  refine TL.extract hF rfl rfl rfl ?_
  refine TL.extract hF rfl rfl rfl ?_
  refine TL.extract hF rfl rfl rfl ?_
  refine TL.assign hF rfl rfl ?_
  refine TL.assign hF rfl rfl ?_
  refine TL.assign hF rfl rfl ?_
  refine TL.nil ?_
  refine TQ.then_n ?_
  refine T.seq ?_
  refine T.region ?_
  refine TL.build hF rfl (r := .agg (DoneD.cells ⟨0, 2, 7, true⟩).toArray) (fun w => by kernel_rfl) rfl ?_
  refine TL.build hF rfl (r := .agg (DoneD.cells ⟨0, 3, 1, true⟩).toArray) (fun w => by kernel_rfl) rfl ?_
  refine TL.build hF rfl (r := .agg (DoneD.cells ⟨0, 4, 2, true⟩).toArray) (fun w => by kernel_rfl) rfl ?_
  refine TL.build hF rfl (r := .agg (DoneD.cells ⟨1, 2, 9, true⟩).toArray) (fun w => by kernel_rfl) rfl ?_
  refine TL.build hF rfl (r := .agg (DoneD.cells ⟨1, 3, 1, false⟩).toArray) (fun w => by kernel_rfl) rfl ?_
  refine TL.build hF rfl (r := .agg (DoneD.cells ⟨1, 4, 4, true⟩).toArray) (fun w => by kernel_rfl) rfl ?_
  refine TL.build hF rfl (r := .agg (DoneD.cells ⟨2, 2, 10, true⟩).toArray) (fun w => by kernel_rfl) rfl ?_
  refine TL.build hF rfl (r := .agg (DoneD.cells ⟨2, 3, 0, true⟩).toArray) (fun w => by kernel_rfl) rfl ?_
  refine TL.build hF rfl (r := .agg (DoneD.cells ⟨2, 4, 4, false⟩).toArray) (fun w => by kernel_rfl) rfl ?_
  refine TL.build hF rfl (r := .agg (DoneD.cells ⟨2, 5, 15, true⟩).toArray) (fun w => by kernel_rfl) rfl ?_
  refine TL.buildSlice hF rfl (cs := (exD.flatMap DoneD.cells).toArray) (e := 53) (fun w => by kernel_rfl) rfl (fun b64 => ?_)
  refine TL.assign hF rfl rfl ?_
  refine TL.nil ?_
  refine TQ.then_n ?_
  refine T.seq ?_
  refine T.seq ?_
  refine T.region ?_
  refine TL.move hF rfl rfl ?_
  refine TL.bin hF rfl rfl rfl rfl ?_
  refine TL.move hF rfl rfl ?_
  refine TL.on rfl rfl rfl rfl ?_
  refine TL.move hF rfl rfl ?_
  refine TL.on rfl rfl rfl rfl ?_
  refine TL.move hF rfl rfl ?_
  refine TL.on rfl rfl rfl rfl ?_
  refine TL.bin hF rfl rfl rfl rfl ?_
  refine TL.pickF hF rfl rfl rfl rfl ?_
  refine TL.move hF rfl rfl ?_
  refine TL.on rfl rfl rfl rfl ?_
  refine TL.move hF rfl rfl ?_
  refine TL.on rfl rfl rfl rfl ?_
  refine TL.move hF rfl rfl ?_
  refine TL.on rfl rfl rfl rfl ?_
  refine TL.bin hF rfl rfl rfl rfl ?_
  refine TL.pickF hF rfl rfl rfl rfl ?_
  refine TL.move hF rfl rfl ?_
  refine TL.on rfl rfl rfl rfl ?_
  refine TL.move hF rfl rfl ?_
  refine TL.on rfl rfl rfl rfl ?_
  refine TL.move hF rfl rfl ?_
  refine TL.on rfl rfl rfl rfl ?_
  refine TL.bin hF rfl rfl rfl rfl ?_
  refine TL.pickF hF rfl rfl rfl rfl ?_
  refine TL.move hF rfl rfl ?_
  refine TL.on rfl rfl rfl rfl ?_
  refine TL.move hF rfl rfl ?_
  refine TL.on rfl rfl rfl rfl ?_
  refine TL.move hF rfl rfl ?_
  refine TL.on rfl rfl rfl rfl ?_
  refine TL.bin hF rfl rfl rfl rfl ?_
  refine TL.pickF hF rfl rfl rfl rfl ?_
  refine TL.move hF rfl rfl ?_
  refine TL.on rfl rfl rfl rfl ?_
  refine TL.move hF rfl rfl ?_
  refine TL.on rfl rfl rfl rfl ?_
  refine TL.move hF rfl rfl ?_
  refine TL.on rfl rfl rfl rfl ?_
  refine TL.bin hF rfl rfl rfl rfl ?_
  refine TL.pickF hF rfl rfl rfl rfl ?_
  refine TL.move hF rfl rfl ?_
  refine TL.on rfl rfl rfl rfl ?_
  refine TL.move hF rfl rfl ?_
  refine TL.on rfl rfl rfl rfl ?_
  refine TL.bin hF rfl rfl rfl rfl ?_
  refine TL.pickF hF rfl rfl rfl rfl ?_
  refine TL.move hF rfl rfl ?_
  refine TL.on rfl rfl rfl rfl ?_
  refine TL.move hF rfl rfl ?_
  refine TL.on rfl rfl rfl rfl ?_
  refine TL.bin hF rfl rfl rfl rfl ?_
  refine TL.pickF hF rfl rfl rfl rfl ?_
  refine TL.nil ?_
  refine TQ.then_n ?_
  refine T.cond_f rfl rfl ?_
  refine T.skip ?_
  refine TQ.then_n ?_
  refine T.seq ?_
  refine T.region ?_
  refine TL.move hF rfl rfl ?_
  refine TL.buildSlice hF rfl (cs := (ints [0, 0, 1, 2, 3, 4]).toArray) (e := 3) (fun w => by kernel_rfl) rfl (fun b101 => ?_)
  refine TL.callV hF (EqT_fn (xs := [0, 0, 1, 2, 3, 4]) j1.ro (row_own (cs := ints [0, 0, 1, 2, 3, 4]) (e := 3) (by simp)) rfl (by decide)) rfl rfl ?_
  refine TL.move hF rfl rfl ?_
  refine TL.on rfl rfl rfl rfl ?_
  refine TL.move hF rfl rfl ?_
  refine TL.on rfl rfl rfl rfl ?_
  refine TL.buildSlice hF rfl (cs := (ints [4, 6, 10, 0, 4, 15]).toArray) (e := 3) (fun w => by kernel_rfl) rfl (fun b105 => ?_)
  refine TL.on rfl rfl rfl rfl ?_
  refine TL.callV hF (EqT_fn (xs := [4, 6, 10, 0, 4, 15]) j2.ro (row_own (cs := ints [4, 6, 10, 0, 4, 15]) (e := 3) (by simp)) rfl (by decide)) rfl rfl ?_
  refine TL.pickT hF rfl rfl rfl rfl ?_
  refine TL.move hF rfl rfl ?_
  refine TL.on rfl rfl rfl rfl ?_
  refine TL.move hF rfl rfl ?_
  refine TL.on rfl rfl rfl rfl ?_
  refine TL.move hF rfl rfl ?_
  refine TL.on rfl rfl rfl rfl ?_
  refine TL.callV hF (SameT_fn (xs := exD) (ys := exD) j3.ro (row_own (cs := exD.flatMap DoneD.cells) (e := 53) (by simp)) rfl (by decide)) rfl rfl ?_
  refine TL.pickT hF rfl rfl rfl rfl ?_
  refine TL.move hF rfl rfl ?_
  refine TL.on rfl rfl rfl rfl ?_
  refine TL.move hF rfl rfl ?_
  refine TL.on rfl rfl rfl rfl ?_
  refine TL.buildSlice hF rfl (cs := (ints [15]).toArray) (e := 3) (fun w => by kernel_rfl) rfl (fun b115 => ?_)
  refine TL.on rfl rfl rfl rfl ?_
  refine TL.buildSlice hF rfl (cs := (ints [15]).toArray) (e := 3) (fun w => by kernel_rfl) rfl (fun b116 => ?_)
  refine TL.on rfl rfl rfl rfl ?_
  refine TL.buildSlice hF rfl (cs := #[.slice none 0 0, .slice none 0 0, .slice (some ⟨b115, 0, none⟩) 1 1, .slice (some ⟨b116, 0, none⟩) 1 1]) (e := 24) (fun w => by kernel_rfl) rfl (fun b117 => ?_)
  refine TL.on rfl rfl rfl rfl ?_
  refine TL.callV hF (EqLT_fn (xs := [[], [], [15], [15]]) (ys := [[], [], [15], [15]]) (j4.up (by simp)) (⟨[(none, 0), (none, 0), (some ⟨b115, 0, none⟩, 1), (some ⟨b116, 0, none⟩, 1)], rfl, row_own (cs := [.slice none 0 0, .slice none 0 0, .slice (some ⟨b115, 0, none⟩) 1 1, .slice (some ⟨b116, 0, none⟩) 1 1]) (e := 24) (by simp), fun i h1 h2 => by
    simp only [List.length_cons, List.length_nil] at h1
    have hi : i = 0 ∨ i = 1 ∨ i = 2 ∨ i = 3 := by omega
    rcases hi with rfl | rfl | rfl | rfl
    · exact Row.none
    · exact Row.none
    · exact (row_own (cs := ints [15]) (e := 3) (by simp))
    · exact (row_own (cs := ints [15]) (e := 3) (by simp))⟩) rfl (by decide) (by decide)) rfl rfl ?_
  refine TL.pickT hF rfl rfl rfl rfl ?_
  refine TL.move hF rfl rfl ?_
  refine TL.on rfl rfl rfl rfl ?_
  refine TL.move hF rfl rfl ?_
  refine TL.on rfl rfl rfl rfl ?_
  refine TL.buildSlice hF rfl (cs := (ints [2]).toArray) (e := 3) (fun w => by kernel_rfl) rfl (fun b122 => ?_)
  refine TL.on rfl rfl rfl rfl ?_
  refine TL.buildSlice hF rfl (cs := (ints [4]).toArray) (e := 3) (fun w => by kernel_rfl) rfl (fun b123 => ?_)
  refine TL.on rfl rfl rfl rfl ?_
  refine TL.buildSlice hF rfl (cs := (ints [4]).toArray) (e := 3) (fun w => by kernel_rfl) rfl (fun b124 => ?_)
  refine TL.on rfl rfl rfl rfl ?_
  refine TL.buildSlice hF rfl (cs := (ints [4]).toArray) (e := 3) (fun w => by kernel_rfl) rfl (fun b125 => ?_)
  refine TL.on rfl rfl rfl rfl ?_
  refine TL.buildSlice hF rfl (cs := #[.slice (some ⟨b122, 0, none⟩) 1 1, .slice (some ⟨b123, 0, none⟩) 1 1, .slice (some ⟨b124, 0, none⟩) 1 1, .slice (some ⟨b125, 0, none⟩) 1 1]) (e := 24) (fun w => by kernel_rfl) rfl (fun b126 => ?_)
  refine TL.on rfl rfl rfl rfl ?_
  refine TL.callV hF (EqLT_fn (xs := [[2], [4], [4], [4]]) (ys := [[2], [4], [4], [4]]) (j5.up (by simp)) (⟨[(some ⟨b122, 0, none⟩, 1), (some ⟨b123, 0, none⟩, 1), (some ⟨b124, 0, none⟩, 1), (some ⟨b125, 0, none⟩, 1)], rfl, row_own (cs := [.slice (some ⟨b122, 0, none⟩) 1 1, .slice (some ⟨b123, 0, none⟩) 1 1, .slice (some ⟨b124, 0, none⟩) 1 1, .slice (some ⟨b125, 0, none⟩) 1 1]) (e := 24) (by simp), fun i h1 h2 => by
    simp only [List.length_cons, List.length_nil] at h1
    have hi : i = 0 ∨ i = 1 ∨ i = 2 ∨ i = 3 := by omega
    rcases hi with rfl | rfl | rfl | rfl
    · exact (row_own (cs := ints [2]) (e := 3) (by simp))
    · exact (row_own (cs := ints [4]) (e := 3) (by simp))
    · exact (row_own (cs := ints [4]) (e := 3) (by simp))
    · exact (row_own (cs := ints [4]) (e := 3) (by simp))⟩) rfl (by decide) (by decide)) rfl rfl ?_
  refine TL.pickT hF rfl rfl rfl rfl ?_
  refine TL.assign hF rfl rfl ?_
  refine TL.nil ?_
  refine TQ.then_n ?_
  refine T.ret ?_
  exact TQ.retsF [0] _ hb rfl rfl rfl (fun _ => rfl)
end Go.Proofs.YtefkmiomldhmjaaDoor
/- The first law: the walk. -/
namespace Go.Proofs.YtefkmiomldhmjaaDoor
open Go.Sl
variable {S : Nat → Prop} {w0 : World} {η : Heap}
set_option maxHeartbeats 2000000 in
theorem far_fn {a : Option Addr} {l : List NodeD} {c : Nat} {ia : Option Addr} {all : List InstD} {ic : Nat} {sa : Option Addr} {sl sc : Nat} (hn : Nodes S w0 [] a l) (hi : Insts S w0 [] ia all) (hl : l.length < 2 ^ 63) (_hfl : ∀ x ∈ l, x.fr.length < 2 ^ 63) (hal : all.length < 2 ^ 63)  :
    Rt Tryd.prog 10 [.slice a l.length c, .slice ia all.length ic, .slice sa sl sc].toArray S w0 [] (fun v η' => ∃ b, v = .bool b ∧ η' = []) := by
  have hF := open_wide
  refine Rt.of (fn := Tryd.f10) Tryd.func10 rfl rfl ?_
  refine T.seq ?_
  refine T.region ?_
  refine TL.assign hF rfl rfl ?_
  refine TL.nil ?_
  refine TQ.then_n ?_
  refine T.seq ?_
  refine T.region ?_
  refine TL.move hF rfl rfl ?_
  refine TL.len hF rfl rfl ?_
  refine TL.move hF rfl rfl ?_
  refine TL.len hF rfl rfl ?_
  refine TL.addK hF rfl rfl rfl rfl ?_
  refine TL.assign hF rfl rfl ?_
  refine TL.nil ?_
  refine TQ.then_n ?_
  refine T.seq ?_
  refine T.seq ?_
  refine T.region ?_
  refine TL.move hF rfl rfl ?_
  refine TL.len hF rfl rfl ?_
  refine TL.move hF rfl rfl ?_
  refine TL.nil ?_
  refine TQ.then_n ?_
  refine T.block ?_
  refine T.loop (ι := Nat × Int) (fun i => i.1 ≤ l.length) (fun i => [(1, .slice ia all.length ic), (6, .bool false), (7, .int .i64 i.2), (17, .slice a l.length c), (18, .int .i64 (l.length : Int)), (19, .int .i64 (i.1 : Int))]) (fun _ => []) (fun i => l.length - i.1) (0, IntKind.i64.wrap ((l.length : Int) + (sl : Int))) (Nat.zero_le _) ⟨rfl, rfl, rfl, rfl, rfl, rfl, trivial⟩ rfl ?_
  rintro ⟨k, z⟩ hk
  dsimp only at hk
  refine T.seq ?_
  refine T.region ?_
  refine TL.bin hF rfl rfl rfl rfl ?_
  refine TL.nil ?_
  refine TQ.then_n ?_
  refine T.seq ?_
  first | refine T.cond_d rfl (fun ht20 => ?_) (fun ht20 => ?_) | refine T.cond _ rfl (fun ht20 => ?_) (fun ht20 => ?_)
  · refine T.skip ?_
    refine TQ.then_n ?_
    refine T.seq ?_
    refine T.block ?_
    refine T.seq ?_
    refine T.region ?_
    refine TL.indexAddr hF rfl rfl (hn.ad (i := k) (by omega)) (by omega) (by omega) rfl ?_
    refine TL.loadA hF (l[k]'(by omega)).cells rfl rfl (hn.ro.atA (i := k) (by omega)) rfl ?_
    refine TL.alloc hF rfl (fun b9 => ?_)
    refine TL.storeAI hF (l[k]'(by omega)).cells 0 rfl rfl rfl rfl (ncells1 _) (by simp [Value.cells, ncl]) ?_
    refine TL.nil ?_
    refine TQ.then_n ?_
    refine T.region ?_
    refine TL.move hF rfl rfl ?_
    refine TL.fieldAddr hF rfl rfl ?_
    refine TL.load hF rfl (by first | exact At.own' (i := 0) rfl rfl | exact At.own' (i := 1) rfl rfl | exact At.own' (i := 2) rfl rfl | exact At.own' (i := 3) rfl rfl | exact At.own' (i := 4) rfl rfl | exact At.own' (i := 5) rfl rfl | exact At.own' (i := 6) rfl rfl | exact At.own' (i := 7) rfl rfl | exact At.own' (i := 8) rfl rfl | exact At.own' (i := 9) rfl rfl | exact At.own' (i := 10) rfl rfl | exact At.own' (i := 11) rfl rfl | exact At.own' (i := 12) rfl rfl) rfl ?_
    refine TL.len hF rfl rfl ?_
    refine TL.addK hF rfl rfl rfl rfl ?_
    refine TL.assign hF rfl rfl ?_
    refine TL.nil ?_
    refine TQ.block_n ?_
    refine TQ.then_n ?_
    refine T.region ?_
    refine TL.add hF rfl rfl (by omega) (by omega) rfl ?_
    refine TL.move hF rfl rfl ?_
    refine TL.nil ?_
    refine TQ.pop ?_
    exact TQ.round (k + 1, _) (by dsimp only; omega) (by dsimp only; omega) ⟨rfl, rfl, rfl, rfl, rfl, rfl, trivial⟩ rfl
  · refine T.exit ?_
    refine TQ.then_x ?_
    refine TQ.then_x ?_
    refine TQ.block_x ?_
    refine TQ.then_n ?_
    refine T.seq ?_
    refine T.seq ?_
    refine T.region ?_
    refine TL.move hF rfl rfl ?_
    refine TL.len hF rfl rfl ?_
    refine TL.move hF rfl rfl ?_
    refine TL.nil ?_
    refine TQ.then_n ?_
    refine T.block ?_
    refine T.loop (ι := Nat × Int) (fun i => i.1 ≤ all.length) (fun i => [(6, .bool false), (7, .int .i64 i.2), (29, .slice ia all.length ic), (30, .int .i64 (all.length : Int)), (31, .int .i64 (i.1 : Int))]) (fun _ => []) (fun i => all.length - i.1) (0, z) (Nat.zero_le _) ⟨rfl, rfl, rfl, rfl, rfl, trivial⟩ rfl ?_
    rintro ⟨k, z⟩ hk
    dsimp only at hk
    refine T.seq ?_
    refine T.region ?_
    refine TL.bin hF rfl rfl rfl rfl ?_
    refine TL.nil ?_
    refine TQ.then_n ?_
    refine T.seq ?_
    first | refine T.cond_d rfl (fun ht32 => ?_) (fun ht32 => ?_) | refine T.cond _ rfl (fun ht32 => ?_) (fun ht32 => ?_)
    · refine T.skip ?_
      refine TQ.then_n ?_
      refine T.seq ?_
      refine T.block ?_
      refine T.seq ?_
      refine T.region ?_
      refine TL.indexAddr hF rfl rfl (hi.ad (i := k) (by omega)) (by omega) (by omega) rfl ?_
      refine TL.loadA hF (all[k]'(by omega)).cells rfl rfl (hi.ro.atA (i := k) (by omega)) rfl ?_
      refine TL.alloc hF rfl (fun b11 => ?_)
      refine TL.storeAI hF (all[k]'(by omega)).cells 0 rfl rfl rfl rfl (icells1 _) (by simp [Value.cells, icl]) ?_
      refine TL.nil ?_
      refine TQ.then_n ?_
      refine T.region ?_
      refine TL.move hF rfl rfl ?_
      refine TL.fieldAddr hF rfl rfl ?_
      refine TL.load hF rfl (by first | exact At.own' (i := 0) rfl rfl | exact At.own' (i := 1) rfl rfl | exact At.own' (i := 2) rfl rfl | exact At.own' (i := 3) rfl rfl | exact At.own' (i := 4) rfl rfl | exact At.own' (i := 5) rfl rfl | exact At.own' (i := 6) rfl rfl | exact At.own' (i := 7) rfl rfl | exact At.own' (i := 8) rfl rfl | exact At.own' (i := 9) rfl rfl | exact At.own' (i := 10) rfl rfl | exact At.own' (i := 11) rfl rfl | exact At.own' (i := 12) rfl rfl) rfl ?_
      refine TL.len hF rfl rfl ?_
      refine TL.addK hF rfl rfl rfl rfl ?_
      refine TL.fieldAddr hF rfl rfl ?_
      refine TL.load hF rfl (by first | exact At.own' (i := 0) rfl rfl | exact At.own' (i := 1) rfl rfl | exact At.own' (i := 2) rfl rfl | exact At.own' (i := 3) rfl rfl | exact At.own' (i := 4) rfl rfl | exact At.own' (i := 5) rfl rfl | exact At.own' (i := 6) rfl rfl | exact At.own' (i := 7) rfl rfl | exact At.own' (i := 8) rfl rfl | exact At.own' (i := 9) rfl rfl | exact At.own' (i := 10) rfl rfl | exact At.own' (i := 11) rfl rfl | exact At.own' (i := 12) rfl rfl) rfl ?_
      refine TL.len hF rfl rfl ?_
      refine TL.addK hF rfl rfl rfl rfl ?_
      refine TL.addK hF rfl rfl rfl rfl ?_
      refine TL.assign hF rfl rfl ?_
      refine TL.nil ?_
      refine TQ.block_n ?_
      refine TQ.then_n ?_
      refine T.region ?_
      refine TL.add hF rfl rfl (by omega) (by omega) rfl ?_
      refine TL.move hF rfl rfl ?_
      refine TL.nil ?_
      refine TQ.pop ?_
      exact TQ.round (k + 1, _) (by dsimp only; omega) (by dsimp only; omega) ⟨rfl, rfl, rfl, rfl, rfl, trivial⟩ rfl
    · refine T.exit ?_
      refine TQ.then_x ?_
      refine TQ.then_x ?_
      refine TQ.block_x ?_
      refine TQ.then_n ?_
      refine T.seq ?_
      refine T.region ?_
      refine TL.move hF rfl rfl ?_
      refine TL.bin hF rfl rfl rfl rfl ?_
      refine TL.assign hF rfl rfl ?_
      refine TL.nil ?_
      refine TQ.then_n ?_
      refine T.ret ?_
      refine TQ.rets [6] _ rfl rfl rfl ?_
      exact ⟨_, rfl, rfl⟩
theorem heightsS_len (l : List NodeD) : (heightsS l).1.length ≤ l.length := by
  unfold heightsS; split <;> simp
theorem scratchS_len (l : List NodeD) (ws : List Int) : (scratchS l ws).1.length ≤ l.length := by
  unfold scratchS; split
  · split
    · split <;> simp
    · simp
  · simp
theorem runI_len (l : List NodeD) (want : Nat → Bool) (now : Nat) (pick : List Int) : ∀ f s, (runI l want now pick f s).1.length ≤ f
  | 0, s => by simp [runI]
  | f + 1, s => by
    unfold runI; split
    · simp
    · have h1 := doneS_len l now s (nextS pick s (readyS l want s now))
      have h2 := runI_len l want now pick f (lookS l now s (nextS pick s (readyS l want s now)))
      simp only [List.length_append]; omega
theorem allS_dlen (l : List NodeD) (pick : List Int) : ∀ all now s, (allS l pick all now s).1.length ≤ l.length * all.length
  | [], _, _ => by simp [allS]
  | x :: r, now, s => by
    have h1 := runI_len l (wantS l x.asks) now pick l.length (afterSets x now s)
    have h2 := allS_dlen l pick r (now + 1) (instS l x now pick s).2.2
    simp only [allS, List.length_append, List.length_cons, Nat.mul_add, Nat.mul_one]
    unfold instS at h2 ⊢; omega
theorem runS_len {l : List NodeD} (all : List InstD) (pick : List Int) : (runS l all pick).1.length ≤ 1200 := by
  unfold runS; split
  · rename_i h
    have hva : valid l = true := by
      unfold checkS at h; split at h
      · assumption
      · omega
    have hok := ok_of hva
    rw [checkS_rest hva] at h
    have h3 := (restE_ok h).1
    have h4 := allS_dlen l pick all 0 (startS l)
    have h5 := hok.len
    have h6 : l.length * all.length ≤ 40 * 30 := Nat.mul_le_mul h5 h3
    unfold toldS; simp only; omega
  · simp
theorem askedS_len {l : List NodeD} (all : List InstD) (pick : List Int) : (askedS l all pick).1.length ≤ all.length ∧ ∀ z ∈ (askedS l all pick).1, ∃ x ∈ all, z.length = x.asks.length := by
  unfold askedS; split
  · rename_i h0; clear h0
    refine ⟨by simp only [askedOf, List.length_zipWith]; omega, fun z hz => ?_⟩
    simp only [askedOf] at hz
    generalize (toldS l all pick).2.2 = Ws at hz
    induction all generalizing Ws with
    | nil => simp at hz
    | cons x r ih =>
      cases Ws with
      | nil => simp at hz
      | cons W Ws =>
        simp only [List.zipWith_cons_cons, List.mem_cons] at hz
        rcases hz with rfl | hz
        · exact ⟨x, List.mem_cons_self, by simp⟩
        · obtain ⟨y, h1, h2⟩ := ih Ws hz; exact ⟨y, List.mem_cons_of_mem _ h1, h2⟩
  · simp
theorem eagerS_len {l : List NodeD} (all : List InstD) (pick : List Int) : (eagerS l all pick).1.length ≤ all.length ∧ ∀ z ∈ (eagerS l all pick).1, z.length ≤ l.length := by
  unfold eagerS; split
  · refine ⟨by simp [toldS, allS_len], fun z hz => ?_⟩
    obtain ⟨W, _, rfl⟩ := List.mem_map.1 hz
    have := List.length_filter_le (fun i => (nd l i).eager) (List.range l.length)
    simpa [eagerOf] using this
  · simp

set_option maxHeartbeats 2000000 in
theorem SchedTells_fn (hg : Kinds S w0) {a : Option Addr} {l : List NodeD} {c : Nat} {ia : Option Addr} {all : List InstD} {ic : Nat} {sa : Option Addr} {pick : List Int} {sc : Nat} {wa : Option Addr} {ws : List Int} {wc : Nat} (hn : Nodes S w0 [] a l) (hi : Insts S w0 [] ia all) (hp : Row S w0 [] sa (ints pick)) (hw : Row S w0 [] wa (ints ws)) (hl : l.length < 2 ^ 63) (hfl : ∀ x ∈ l, x.fr.length < 2 ^ 63) (hal : all.length < 2 ^ 63) (hil : ∀ x ∈ all, x.sets.length < 2 ^ 63 ∧ x.asks.length < 2 ^ 63) (hpl : pick.length < 2 ^ 63) :
    Rt Tryd.prog 3 [.slice a l.length c, .slice ia all.length ic, .slice sa pick.length sc, .slice wa ws.length wc].toArray S w0 [] (fun v _ => v = .bool true) := by
  have hF := open_wide
  refine Rt.of (fn := Tryd.f3) Tryd.func3 rfl rfl ?_
  refine T.seq ?_
  refine T.region ?_
  refine TL.assign hF rfl rfl ?_
  refine TL.nil ?_
  refine TQ.then_n ?_
  refine T.seq ?_
  refine T.seq ?_
  refine T.region ?_
  refine TL.move hF rfl rfl ?_
  refine TL.move hF rfl rfl ?_
  refine TL.move hF rfl rfl ?_
  refine TL.call hF (far_fn hn hi hl hfl hal) rfl rfl ?_
  rintro _ _ ⟨fb, rfl, rfl⟩
  have hb := Back.refl S w0
  have hl2 : l.length < 2 ^ 63 := by omega
  have hal2 : all.length < 2 ^ 63 := by omega
  have hpl2 : pick.length < 2 ^ 63 := by omega
  refine TL.move hF rfl rfl ?_
  refine TL.gb (t := 39) rfl (fun g1_39 => ?_) (fun g1_39 => ?_)
  · refine TL.off hF rfl rfl rfl g1_39 rfl ?_
    refine TL.off hF rfl rfl rfl g1_39 rfl ?_
    refine TL.off hF rfl rfl rfl g1_39 rfl ?_
    refine TL.pickT hF rfl g1_39 rfl rfl ?_
    refine TL.nil ?_
    refine TQ.then_n ?_
    refine T.cond_t rfl rfl ?_
    refine T.seq ?_
    refine T.region ?_
    refine TL.call hF (awake_fn hg) rfl rfl ?_
    rintro _ _ rfl
    refine TL.assign hF rfl rfl ?_
    refine TL.nil ?_
    refine TQ.then_n ?_
    refine T.ret ?_
    refine TQ.then_r ?_
    exact TQ.retsF [8] _ hb rfl rfl rfl (fun _ => rfl)
  · refine TL.on rfl rfl rfl g1_39 ?_
    refine TL.move hF rfl rfl ?_
    refine TL.on rfl rfl rfl g1_39 ?_
    refine TL.len hF rfl rfl ?_
    refine TL.on rfl rfl rfl g1_39 ?_
    refine TL.bin hF rfl rfl rfl rfl ?_
    refine TL.pickF hF rfl g1_39 rfl rfl ?_
    refine TL.nil ?_
    refine TQ.then_n ?_
    first | refine T.cond_d rfl (fun ht43 => ?_) (fun ht43 => ?_) | refine T.cond _ rfl (fun ht43 => ?_) (fun ht43 => ?_)
    · refine T.seq ?_
      refine T.region ?_
      refine TL.call hF (awake_fn hg) rfl rfl ?_
      rintro _ _ rfl
      refine TL.assign hF rfl rfl ?_
      refine TL.nil ?_
      refine TQ.then_n ?_
      refine T.ret ?_
      refine TQ.then_r ?_
      exact TQ.retsF [8] _ hb rfl rfl rfl (fun _ => rfl)
    · refine T.skip ?_
      refine TQ.then_n ?_
      refine T.seq ?_
      refine T.region ?_
      refine TL.move hF rfl rfl ?_
      have hws : ws.length < 2 ^ 63 := by have h : ¬ (100 : Int) < (ws.length : Int) := ht43; omega
      refine TL.call hF (Heights_prog hg hn hl2 hfl) rfl rfl ?_
      rintro _ _ ⟨a1, c1, s1, rfl, rfl, j1⟩
      refine TL.freeze s1 rfl (fun S1 w1 hz1 => ?_)
      have hb := hb.frz hz1
      have hg := hg.old hz1
      have hn := hn.old hz1
      have hi := hi.old hz1
      have hp := hp.old hz1
      have hw := hw.old hz1
      have j1 := j1.frz hz1
      refine TL.move hF rfl rfl ?_
      refine TL.extract hF rfl rfl rfl ?_
      refine TL.extract hF rfl rfl rfl ?_
      refine TL.assign hF rfl rfl ?_
      refine TL.assign hF rfl rfl ?_
      refine TL.nil ?_
      refine TQ.then_n ?_
      refine T.seq ?_
      refine T.region ?_
      refine TL.move hF rfl rfl ?_
      refine TL.call hF (Heights_ref hn hl2 hfl) rfl rfl ?_
      rintro _ _ ⟨a2, c2, s2, rfl, rfl, j2⟩
      refine TL.freeze s2 rfl (fun S2 w2 hz2 => ?_)
      have hb := hb.frz hz2
      have hg := hg.old hz2
      have hn := hn.old hz2
      have hi := hi.old hz2
      have hp := hp.old hz2
      have hw := hw.old hz2
      have j2 := j2.frz hz2
      have j1 := j1.old hz2
      refine TL.move hF rfl rfl ?_
      refine TL.extract hF rfl rfl rfl ?_
      refine TL.extract hF rfl rfl rfl ?_
      refine TL.assign hF rfl rfl ?_
      refine TL.assign hF rfl rfl ?_
      refine TL.nil ?_
      refine TQ.then_n ?_
      refine T.seq ?_
      refine T.region ?_
      refine TL.move hF rfl rfl ?_
      refine TL.move hF rfl rfl ?_
      refine TL.call hF (Scratch_prog hg hn hl2 hfl hw hws) rfl rfl ?_
      rintro _ _ ⟨a3, c3, s3, rfl, rfl, j3⟩
      refine TL.freeze s3 rfl (fun S3 w3 hz3 => ?_)
      have hb := hb.frz hz3
      have hg := hg.old hz3
      have hn := hn.old hz3
      have hi := hi.old hz3
      have hp := hp.old hz3
      have hw := hw.old hz3
      have j3 := j3.frz hz3
      have j1 := j1.old hz3
      have j2 := j2.old hz3
      refine TL.move hF rfl rfl ?_
      refine TL.extract hF rfl rfl rfl ?_
      refine TL.extract hF rfl rfl rfl ?_
      refine TL.assign hF rfl rfl ?_
      refine TL.assign hF rfl rfl ?_
      refine TL.nil ?_
      refine TQ.then_n ?_
      refine T.seq ?_
      refine T.region ?_
      refine TL.move hF rfl rfl ?_
      refine TL.move hF rfl rfl ?_
      refine TL.call hF (Scratch_ref hn hl2 hfl hw hws) rfl rfl ?_
      rintro _ _ ⟨a4, c4, s4, rfl, rfl, j4⟩
      refine TL.freeze s4 rfl (fun S4 w4 hz4 => ?_)
      have hb := hb.frz hz4
      have hg := hg.old hz4
      have hn := hn.old hz4
      have hi := hi.old hz4
      have hp := hp.old hz4
      have hw := hw.old hz4
      have j4 := j4.frz hz4
      have j1 := j1.old hz4
      have j2 := j2.old hz4
      have j3 := j3.old hz4
      refine TL.move hF rfl rfl ?_
      refine TL.extract hF rfl rfl rfl ?_
      refine TL.extract hF rfl rfl rfl ?_
      refine TL.assign hF rfl rfl ?_
      refine TL.assign hF rfl rfl ?_
      refine TL.nil ?_
      refine TQ.then_n ?_
      refine T.seq ?_
      refine T.seq ?_
      refine T.region ?_
      refine TL.move hF rfl rfl ?_
      refine TL.move hF rfl rfl ?_
      refine TL.callV hF (EqT_fn j1.ro j2.ro rfl (by have := heightsS_len l; omega)) rfl rfl ?_
      refine TL.not hF rfl rfl ?_
      refine TL.move hF rfl rfl ?_
      refine TL.on rfl rfl rfl rfl ?_
      refine TL.move hF rfl rfl ?_
      refine TL.on rfl rfl rfl rfl ?_
      refine TL.move hF rfl rfl ?_
      refine TL.on rfl rfl rfl rfl ?_
      refine TL.bin hF rfl rfl rfl rfl ?_
      refine TL.pickF hF rfl rfl rfl rfl ?_
      refine TL.move hF rfl rfl ?_
      refine TL.on rfl rfl rfl (by simp) ?_
      refine TL.move hF rfl rfl ?_
      refine TL.on rfl rfl rfl (by simp) ?_
      refine TL.move hF rfl rfl ?_
      refine TL.on rfl rfl rfl (by simp) ?_
      refine TL.callV hF (EqT_fn j3.ro j4.ro rfl (by have := scratchS_len l ws; omega)) rfl rfl ?_
      refine TL.on rfl rfl rfl (by simp) ?_
      refine TL.not hF rfl rfl ?_
      refine TL.pickF hF rfl (by simp) rfl rfl ?_
      refine TL.move hF rfl rfl ?_
      refine TL.on rfl rfl rfl rfl ?_
      refine TL.move hF rfl rfl ?_
      refine TL.on rfl rfl rfl rfl ?_
      refine TL.move hF rfl rfl ?_
      refine TL.on rfl rfl rfl rfl ?_
      refine TL.bin hF rfl rfl rfl rfl ?_
      refine TL.pickF hF rfl rfl rfl rfl ?_
      refine TL.nil ?_
      refine TQ.then_n ?_
      refine T.cond_f rfl (by simp) ?_
      refine T.skip ?_
      refine TQ.then_n ?_
      refine T.seq ?_
      refine T.region ?_
      refine TL.move hF rfl rfl ?_
      refine TL.move hF rfl rfl ?_
      refine TL.move hF rfl rfl ?_
      refine TL.call hF (Run_prog hg hn hi hp hl2 hfl hal2 hpl2) rfl rfl ?_
      rintro _ _ ⟨a5, c5, s5, rfl, rfl, j5⟩
      refine TL.freeze s5 rfl (fun S5 w5 hz5 => ?_)
      have hb := hb.frz hz5
      have hg := hg.old hz5
      have hn := hn.old hz5
      have hi := hi.old hz5
      have hp := hp.old hz5
      have hw := hw.old hz5
      have j5 := j5.frz hz5
      have j1 := j1.old hz5
      have j2 := j2.old hz5
      have j3 := j3.old hz5
      have j4 := j4.old hz5
      refine TL.move hF rfl rfl ?_
      refine TL.extract hF rfl rfl rfl ?_
      refine TL.extract hF rfl rfl rfl ?_
      refine TL.assign hF rfl rfl ?_
      refine TL.assign hF rfl rfl ?_
      refine TL.nil ?_
      refine TQ.then_n ?_
      refine T.seq ?_
      refine T.region ?_
      refine TL.move hF rfl rfl ?_
      refine TL.move hF rfl rfl ?_
      refine TL.move hF rfl rfl ?_
      refine TL.call hF (Run_ref hn hi hp hl2 hfl hal2 hpl2) rfl rfl ?_
      rintro _ _ ⟨a6, c6, s6, rfl, rfl, j6⟩
      refine TL.freeze s6 rfl (fun S6 w6 hz6 => ?_)
      have hb := hb.frz hz6
      have hg := hg.old hz6
      have hn := hn.old hz6
      have hi := hi.old hz6
      have hp := hp.old hz6
      have hw := hw.old hz6
      have j6 := j6.frz hz6
      have j1 := j1.old hz6
      have j2 := j2.old hz6
      have j3 := j3.old hz6
      have j4 := j4.old hz6
      have j5 := j5.old hz6
      refine TL.move hF rfl rfl ?_
      refine TL.extract hF rfl rfl rfl ?_
      refine TL.extract hF rfl rfl rfl ?_
      refine TL.assign hF rfl rfl ?_
      refine TL.assign hF rfl rfl ?_
      refine TL.nil ?_
      refine TQ.then_n ?_
      refine T.seq ?_
      refine T.region ?_
      refine TL.move hF rfl rfl ?_
      refine TL.move hF rfl rfl ?_
      refine TL.move hF rfl rfl ?_
      refine TL.call hF (Asked_prog hg hn hi hp hl2 hfl hal2 hpl2) rfl rfl ?_
      rintro _ _ ⟨a7, c7, s7, rfl, rfl, j7⟩
      refine TL.freeze s7 rfl (fun S7 w7 hz7 => ?_)
      have hb := hb.frz hz7
      have hg := hg.old hz7
      have hn := hn.old hz7
      have hi := hi.old hz7
      have hp := hp.old hz7
      have hw := hw.old hz7
      have j7 := j7.frz hz7
      have j1 := j1.old hz7
      have j2 := j2.old hz7
      have j3 := j3.old hz7
      have j4 := j4.old hz7
      have j5 := j5.old hz7
      have j6 := j6.old hz7
      refine TL.move hF rfl rfl ?_
      refine TL.extract hF rfl rfl rfl ?_
      refine TL.extract hF rfl rfl rfl ?_
      refine TL.assign hF rfl rfl ?_
      refine TL.assign hF rfl rfl ?_
      refine TL.nil ?_
      refine TQ.then_n ?_
      refine T.seq ?_
      refine T.region ?_
      refine TL.move hF rfl rfl ?_
      refine TL.move hF rfl rfl ?_
      refine TL.move hF rfl rfl ?_
      refine TL.call hF (Asked_ref hn hi hp hl2 hfl hal2 hpl2) rfl rfl ?_
      rintro _ _ ⟨a8, c8, s8, rfl, rfl, j8⟩
      refine TL.freeze s8 rfl (fun S8 w8 hz8 => ?_)
      have hb := hb.frz hz8
      have hg := hg.old hz8
      have hn := hn.old hz8
      have hi := hi.old hz8
      have hp := hp.old hz8
      have hw := hw.old hz8
      have j8 := j8.frz hz8
      have j1 := j1.old hz8
      have j2 := j2.old hz8
      have j3 := j3.old hz8
      have j4 := j4.old hz8
      have j5 := j5.old hz8
      have j6 := j6.old hz8
      have j7 := j7.old hz8
      refine TL.move hF rfl rfl ?_
      refine TL.extract hF rfl rfl rfl ?_
      refine TL.extract hF rfl rfl rfl ?_
      refine TL.assign hF rfl rfl ?_
      refine TL.assign hF rfl rfl ?_
      refine TL.nil ?_
      refine TQ.then_n ?_
      refine T.seq ?_
      refine T.region ?_
      refine TL.move hF rfl rfl ?_
      refine TL.move hF rfl rfl ?_
      refine TL.move hF rfl rfl ?_
      refine TL.call hF (Eager_prog hg hn hi hp hl2 hfl hal2 hpl2) rfl rfl ?_
      rintro _ _ ⟨a9, c9, s9, rfl, rfl, j9⟩
      refine TL.freeze s9 rfl (fun S9 w9 hz9 => ?_)
      have hb := hb.frz hz9
      have hg := hg.old hz9
      have hn := hn.old hz9
      have hi := hi.old hz9
      have hp := hp.old hz9
      have hw := hw.old hz9
      have j9 := j9.frz hz9
      have j1 := j1.old hz9
      have j2 := j2.old hz9
      have j3 := j3.old hz9
      have j4 := j4.old hz9
      have j5 := j5.old hz9
      have j6 := j6.old hz9
      have j7 := j7.old hz9
      have j8 := j8.old hz9
      refine TL.move hF rfl rfl ?_
      refine TL.extract hF rfl rfl rfl ?_
      refine TL.extract hF rfl rfl rfl ?_
      refine TL.assign hF rfl rfl ?_
      refine TL.assign hF rfl rfl ?_
      refine TL.nil ?_
      refine TQ.then_n ?_
      refine T.seq ?_
      refine T.region ?_
      refine TL.move hF rfl rfl ?_
      refine TL.move hF rfl rfl ?_
      refine TL.move hF rfl rfl ?_
      refine TL.call hF (Eager_ref hn hi hp hl2 hfl hal2 hpl2) rfl rfl ?_
      rintro _ _ ⟨a10, c10, s10, rfl, rfl, j10⟩
      refine TL.freeze s10 rfl (fun S10 w10 hz10 => ?_)
      have hb := hb.frz hz10
      have hg := hg.old hz10
      have hn := hn.old hz10
      have hi := hi.old hz10
      have hp := hp.old hz10
      have hw := hw.old hz10
      have j10 := j10.frz hz10
      have j1 := j1.old hz10
      have j2 := j2.old hz10
      have j3 := j3.old hz10
      have j4 := j4.old hz10
      have j5 := j5.old hz10
      have j6 := j6.old hz10
      have j7 := j7.old hz10
      have j8 := j8.old hz10
      have j9 := j9.old hz10
      refine TL.move hF rfl rfl ?_
      refine TL.extract hF rfl rfl rfl ?_
      refine TL.extract hF rfl rfl rfl ?_
      refine TL.assign hF rfl rfl ?_
      refine TL.assign hF rfl rfl ?_
      refine TL.nil ?_
      refine TQ.then_n ?_
      refine T.seq ?_
      refine T.region ?_
      refine TL.move hF rfl rfl ?_
      refine TL.move hF rfl rfl ?_
      refine TL.move hF rfl rfl ?_
      refine TL.call hF (Looked_prog hg hn hi hp hl2 hfl hal2 hpl2) rfl rfl ?_
      rintro _ _ ⟨rfl, s98, rfl⟩
      refine TL.hsub [] (List.nil_sublist _) ?_
      refine TL.move hF rfl rfl ?_
      refine TL.extract hF rfl rfl rfl ?_
      refine TL.extract hF rfl rfl rfl ?_
      refine TL.extract hF rfl rfl rfl ?_
      refine TL.assign hF rfl rfl ?_
      refine TL.assign hF rfl rfl ?_
      refine TL.assign hF rfl rfl ?_
      refine TL.nil ?_
      refine TQ.then_n ?_
      refine T.seq ?_
      refine T.region ?_
      refine TL.move hF rfl rfl ?_
      refine TL.move hF rfl rfl ?_
      refine TL.move hF rfl rfl ?_
      refine TL.call hF (Looked_ref hn hi hp hl2 hfl hal2 hpl2) rfl rfl ?_
      rintro _ _ ⟨rfl, s99, rfl⟩
      refine TL.hsub [] (List.nil_sublist _) ?_
      refine TL.move hF rfl rfl ?_
      refine TL.extract hF rfl rfl rfl ?_
      refine TL.extract hF rfl rfl rfl ?_
      refine TL.extract hF rfl rfl rfl ?_
      refine TL.assign hF rfl rfl ?_
      refine TL.assign hF rfl rfl ?_
      refine TL.assign hF rfl rfl ?_
      refine TL.nil ?_
      refine TQ.then_n ?_
      refine T.seq ?_
      refine T.region ?_
      refine TL.move hF rfl rfl ?_
      refine TL.move hF rfl rfl ?_
      refine TL.callV hF (SameT_fn j5.ro j6.ro rfl (by have := runS_len (l := l) all pick; omega)) rfl rfl ?_
      refine TL.move hF rfl rfl ?_
      refine TL.on rfl rfl rfl rfl ?_
      refine TL.move hF rfl rfl ?_
      refine TL.on rfl rfl rfl rfl ?_
      refine TL.move hF rfl rfl ?_
      refine TL.on rfl rfl rfl rfl ?_
      refine TL.bin hF rfl rfl rfl rfl ?_
      refine TL.pickT hF rfl rfl rfl rfl ?_
      refine TL.move hF rfl rfl ?_
      refine TL.on rfl rfl rfl (decide_eq_true rfl) ?_
      refine TL.move hF rfl rfl ?_
      refine TL.on rfl rfl rfl (decide_eq_true rfl) ?_
      refine TL.move hF rfl rfl ?_
      refine TL.on rfl rfl rfl (decide_eq_true rfl) ?_
      refine TL.callV hF (EqLT_fn j7 j8 rfl (by have := (askedS_len (l := l) all pick).1; omega) (fun z hz => by obtain ⟨x, h1, h2⟩ := (askedS_len (l := l) all pick).2 z hz; have := (hil x h1).2; omega)) rfl rfl ?_
      refine TL.pickT hF rfl (decide_eq_true rfl) rfl rfl ?_
      refine TL.move hF rfl rfl ?_
      refine TL.on rfl rfl rfl rfl ?_
      refine TL.move hF rfl rfl ?_
      refine TL.on rfl rfl rfl rfl ?_
      refine TL.move hF rfl rfl ?_
      refine TL.on rfl rfl rfl rfl ?_
      refine TL.bin hF rfl rfl rfl rfl ?_
      refine TL.pickT hF rfl rfl rfl rfl ?_
      refine TL.move hF rfl rfl ?_
      refine TL.on rfl rfl rfl (decide_eq_true rfl) ?_
      refine TL.move hF rfl rfl ?_
      refine TL.on rfl rfl rfl (decide_eq_true rfl) ?_
      refine TL.move hF rfl rfl ?_
      refine TL.on rfl rfl rfl (decide_eq_true rfl) ?_
      refine TL.callV hF (EqLT_fn j9 j10 rfl (by have := (eagerS_len (l := l) all pick).1; omega) (fun z hz => by have := (eagerS_len (l := l) all pick).2 z hz; omega)) rfl rfl ?_
      refine TL.pickT hF rfl (decide_eq_true rfl) rfl rfl ?_
      refine TL.move hF rfl rfl ?_
      refine TL.on rfl rfl rfl rfl ?_
      refine TL.move hF rfl rfl ?_
      refine TL.on rfl rfl rfl rfl ?_
      refine TL.move hF rfl rfl ?_
      refine TL.on rfl rfl rfl rfl ?_
      refine TL.bin hF rfl rfl rfl rfl ?_
      refine TL.pickT hF rfl rfl rfl rfl ?_
      refine TL.move hF rfl rfl ?_
      refine TL.on rfl rfl rfl (decide_eq_true rfl) ?_
      refine TL.move hF rfl rfl ?_
      refine TL.on rfl rfl rfl (decide_eq_true rfl) ?_
      refine TL.move hF rfl rfl ?_
      refine TL.on rfl rfl rfl (decide_eq_true rfl) ?_
      refine TL.bin hF rfl rfl rfl rfl ?_
      refine TL.pickT hF rfl (decide_eq_true rfl) rfl rfl ?_
      refine TL.move hF rfl rfl ?_
      refine TL.on rfl rfl rfl (decide_eq_true rfl) ?_
      refine TL.move hF rfl rfl ?_
      refine TL.on rfl rfl rfl (decide_eq_true rfl) ?_
      refine TL.move hF rfl rfl ?_
      refine TL.on rfl rfl rfl (decide_eq_true rfl) ?_
      refine TL.bin hF rfl rfl rfl rfl ?_
      refine TL.pickT hF rfl (decide_eq_true rfl) rfl rfl ?_
      refine TL.move hF rfl rfl ?_
      refine TL.on rfl rfl rfl (decide_eq_true rfl) ?_
      refine TL.move hF rfl rfl ?_
      refine TL.on rfl rfl rfl (decide_eq_true rfl) ?_
      refine TL.move hF rfl rfl ?_
      refine TL.on rfl rfl rfl (decide_eq_true rfl) ?_
      refine TL.bin hF rfl rfl rfl rfl ?_
      refine TL.pickT hF rfl (decide_eq_true rfl) rfl rfl ?_
      refine TL.move hF rfl rfl ?_
      refine TL.on rfl rfl rfl (decide_eq_true rfl) ?_
      refine TL.call hF (awake_fn hg) rfl rfl ?_
      rintro _ _ rfl
      refine TL.pickT hF rfl (decide_eq_true rfl) rfl rfl ?_
      refine TL.assign hF rfl rfl ?_
      refine TL.nil ?_
      refine TQ.then_n ?_
      refine T.ret ?_
      exact TQ.retsF [8] _ hb rfl rfl rfl (fun _ => rfl)
end Go.Proofs.YtefkmiomldhmjaaDoor
/- What the arguments of the laws hold; the table that the program's start lays. -/
namespace Go.Proofs.YtefkmiomldhmjaaDoor
open Go.Sl Go.ChangeShapes Go.WideShapes Go.ChangeAt Go.Deep Go.RowKit
section
variable {H : Type} {enc : TypeId × Value → H} {W : World}
theorem list2 {l : List Value} (h : l.length = 2) : ∃ a b, l = [a, b] := by
  match l, h with
  | [a, b], _ => exact ⟨a, b, rfl⟩
theorem list3 {l : List Value} (h : l.length = 3) : ∃ a b c, l = [a, b, c] := by
  match l, h with
  | [a, b, c], _ => exact ⟨a, b, c, rfl⟩
theorem list4 {l : List Value} (h : l.length = 4) : ∃ a b c d, l = [a, b, c, d] := by
  match l, h with
  | [a, b, c, d], _ => exact ⟨a, b, c, d, rfl⟩
theorem u3 : Tryd.prog.underlying 3 = some (.int .i64) := by kernel_rfl
theorem u4 : Tryd.prog.underlying 4 = some .bool := by kernel_rfl
theorem u22 : Tryd.prog.underlying 22 = some (.slice 55) := by kernel_rfl
theorem u23 : Tryd.prog.underlying 23 = some (.slice 50) := by kernel_rfl
theorem u24 : Tryd.prog.underlying 24 = some (.slice 3) := by kernel_rfl
theorem u48 : Tryd.prog.underlying 48 = some (.slice 68) := by kernel_rfl
theorem u79 : Tryd.prog.underlying 79 = some (.array 4 78) := by kernel_rfl
theorem k3 : Tryd.prog.cellsOf 3 = 1 := by kernel_rfl
theorem k4 : Tryd.prog.cellsOf 4 = 1 := by kernel_rfl
theorem k24 : Tryd.prog.cellsOf 24 = 1 := by kernel_rfl
theorem k48 : Tryd.prog.cellsOf 48 = 1 := by kernel_rfl
theorem k50 : Tryd.prog.cellsOf 50 = 2 := by kernel_rfl
theorem k55 : Tryd.prog.cellsOf 55 = 4 := by kernel_rfl
theorem k68 : Tryd.prog.cellsOf 68 = 2 := by kernel_rfl
theorem k78 : Tryd.prog.cellsOf 78 = 3 := by kernel_rfl
theorem k79 : Tryd.prog.cellsOf 79 = 12 := by kernel_rfl
theorem node_read {fuel : Nat} {cs : List Value} {y : DataW H × List MemPlace} (h : DataW.trod enc Tryd.prog W 0 (fun _ => true) true fuel 55 cs = some y) : ∃ x : NodeD, cs = x.cells ∧ Row (Old W) W [] x.fa (ints x.fr) ∧ x.fr.length ≤ maxLen := by
  obtain ⟨n, hl, hf⟩ := struct_read (l := [(3, 0), (3, 1), (24, 2), (4, 3)]) (by kernel_rfl) h
  rw [k55] at hl
  obtain ⟨c0, c1, c2, c3, rfl⟩ := list4 hl
  obtain ⟨y0, h0⟩ := hf 0 3 0 rfl
  obtain ⟨y1, h1⟩ := hf 1 3 1 rfl
  obtain ⟨y2, h2⟩ := hf 2 24 2 rfl
  obtain ⟨y3, h3⟩ := hf 3 4 3 rfl
  rw [k3] at h0 h1
  rw [k24] at h2
  rw [k4] at h3
  obtain ⟨z, e0, _, _⟩ := DataW.trod_int u3 h0
  obtain ⟨z1, e1, _, _⟩ := DataW.trod_int u3 h1
  obtain ⟨b, e3, _⟩ := DataW.trod_bool u4 h3
  simp only [List.drop_zero, List.take_succ_cons, List.take_zero, List.drop_succ_cons, List.cons.injEq, and_true] at e0 e1 e3 h2
  obtain ⟨a, xs, c, e2, hm, hrow, _⟩ := ints_read u24 u3 k3 h2
  exact ⟨⟨z, z1, a, xs, c, b⟩, by rw [e0, e1, e2, e3]; rfl, hrow, hm⟩
theorem set_read {fuel : Nat} {cs : List Value} {y : DataW H × List MemPlace} (h : DataW.trod enc Tryd.prog W 0 (fun _ => true) true fuel 68 cs = some y) : ∃ x : SetD, cs = x.cells := by
  obtain ⟨n, hl, hf⟩ := struct_read (l := [(3, 0), (3, 1)]) (by kernel_rfl) h
  rw [k68] at hl
  obtain ⟨c0, c1, rfl⟩ := list2 hl
  obtain ⟨y0, h0⟩ := hf 0 3 0 rfl
  obtain ⟨y1, h1⟩ := hf 1 3 1 rfl
  rw [k3] at h0 h1
  obtain ⟨z, e0, _, _⟩ := DataW.trod_int u3 h0
  obtain ⟨z1, e1, _, _⟩ := DataW.trod_int u3 h1
  simp only [List.drop_zero, List.take_succ_cons, List.take_zero, List.drop_succ_cons, List.cons.injEq, and_true] at e0 e1
  exact ⟨⟨z, z1⟩, by rw [e0, e1]; rfl⟩
theorem inst_read {fuel : Nat} {cs : List Value} {y : DataW H × List MemPlace} (h : DataW.trod enc Tryd.prog W 0 (fun _ => true) true fuel 50 cs = some y) : ∃ x : InstD, cs = x.cells ∧ Row (Old W) W [] x.sa (x.sets.flatMap SetD.cells) ∧ Row (Old W) W [] x.aa (ints x.asks) ∧ x.sets.length ≤ maxLen ∧ x.asks.length ≤ maxLen := by
  obtain ⟨n, hl, hf⟩ := struct_read (l := [(48, 0), (24, 1)]) (by kernel_rfl) h
  rw [k50] at hl
  obtain ⟨c0, c1, rfl⟩ := list2 hl
  obtain ⟨y0, h0⟩ := hf 0 48 0 rfl
  obtain ⟨y1, h1⟩ := hf 1 24 1 rfl
  rw [k48] at h0
  rw [k24] at h1
  simp only [List.drop_zero, List.take_succ_cons, List.take_zero, List.drop_succ_cons] at h0 h1
  obtain ⟨a1, xs, c1, e1, hm1, hrow1, _⟩ := ints_read u24 u3 k3 h1
  obtain ⟨a, len, cap, n2, cs2, e2, hlc, hm, hlen, hrow, hel⟩ := slice_read u48 (by rw [k68]; omega) h0
  rw [k68] at hlen hel
  obtain ⟨l, h5, h6, _⟩ := list_read (c := 2) (Q := fun _ => True) SetD.cells hlen (fun i hi => by
    obtain ⟨y, hy⟩ := hel i hi
    obtain ⟨x, hx⟩ := set_read hy
    exact ⟨x, hx, trivial⟩)
  refine ⟨⟨a, l, cap, a1, xs, c1⟩, ?_, by rw [← h6]; exact hrow, hrow1, by show l.length ≤ maxLen; omega, hm1⟩
  rw [e1, e2, ← h5]; rfl
theorem nodes_read {fuel : Nat} {v : Value} {y : DataW H × List MemPlace} (h : DataW.trod enc Tryd.prog W 0 (fun _ => true) true fuel 22 [v] = some y) :
    ∃ (a : Option Addr) (l : List NodeD) (cap : Nat), v = .slice a l.length cap ∧ Nodes (Old W) W [] a l ∧ l.length < 2 ^ 63 ∧ ∀ x ∈ l, x.fr.length < 2 ^ 63 := by
  obtain ⟨a, len, cap, n2, cs2, e2, hlc, hm, hlen, hrow, hel⟩ := slice_read u22 (by rw [k55]; omega) h
  rw [k55] at hlen hel
  obtain ⟨l, h5, h6, h7⟩ := list_read (c := 4) (Q := fun x : NodeD => Row (Old W) W [] x.fa (ints x.fr) ∧ x.fr.length ≤ maxLen) NodeD.cells hlen (fun i hi => by
    obtain ⟨y, hy⟩ := hel i hi
    exact node_read hy)
  refine ⟨a, l, cap, by rw [h5]; exact e2, ⟨by rw [← h6]; exact hrow, fun r hr => (h7 r hr).1⟩, ?_, fun r hr => ?_⟩
  · unfold maxLen at hm; omega
  · have := (h7 r hr).2; unfold maxLen at this; omega
theorem insts_read {fuel : Nat} {v : Value} {y : DataW H × List MemPlace} (h : DataW.trod enc Tryd.prog W 0 (fun _ => true) true fuel 23 [v] = some y) :
    ∃ (a : Option Addr) (l : List InstD) (cap : Nat), v = .slice a l.length cap ∧ Insts (Old W) W [] a l ∧ l.length < 2 ^ 63 ∧ ∀ x ∈ l, x.sets.length < 2 ^ 63 ∧ x.asks.length < 2 ^ 63 := by
  obtain ⟨a, len, cap, n2, cs2, e2, hlc, hm, hlen, hrow, hel⟩ := slice_read u23 (by rw [k50]; omega) h
  rw [k50] at hlen hel
  obtain ⟨l, h5, h6, h7⟩ := list_read (c := 2) (Q := fun x : InstD => Row (Old W) W [] x.sa (x.sets.flatMap SetD.cells) ∧ Row (Old W) W [] x.aa (ints x.asks) ∧ x.sets.length ≤ maxLen ∧ x.asks.length ≤ maxLen) InstD.cells hlen (fun i hi => by
    obtain ⟨y, hy⟩ := hel i hi
    exact inst_read hy)
  refine ⟨a, l, cap, by rw [h5]; exact e2, ⟨by rw [← h6]; exact hrow, fun r hr => (h7 r hr).1, fun r hr => (h7 r hr).2.1⟩, ?_, fun r hr => ?_⟩
  · unfold maxLen at hm; omega
  · have h8 := (h7 r hr).2.2.1; have h9 := (h7 r hr).2.2.2; unfold maxLen at h8 h9; omega
theorem ints_arg {fuel : Nat} {v : Value} {y : DataW H × List MemPlace} (h : DataW.trod enc Tryd.prog W 0 (fun _ => true) true fuel 24 [v] = some y) :
    ∃ (a : Option Addr) (l : List Int) (cap : Nat), v = .slice a l.length cap ∧ Row (Old W) W [] a (ints l) ∧ l.length < 2 ^ 63 := by
  obtain ⟨a, xs, c, e2, hm, hrow, _⟩ := ints_read u24 u3 k3 h
  exact ⟨a, xs, c, e2, hrow, by unfold maxLen at hm; omega⟩
end
theorem Tryd.own : ownKnob Tryd.prog.godebug = none := by kernel_rfl
theorem Tryd.laidOut : laidOutB Tryd.prog = true := by kernel_rfl
theorem gKinds : Tryd.prog.globalNamed "deltaworks/sched.kinds" = some 0 := by kernel_rfl
theorem tKinds : (Tryd.prog.globals[0]?).map (·.type) = some 79 := by kernel_rfl
abbrev laidL : List (String × DataW Unit) := [("deltaworks/sched.kinds", Rows.laid_deltaworks_sched_kinds)]
theorem door_met (os : Os) (args : Array Value) : laidMetH Tryd.prog laidL ((World.doorLaid Tryd.prog 2000 os).forCall (fun _ _ => 0) ⟨#[], args, []⟩).memory :=
  laidMetH_of_parts3 (fuel := 8) (laidMet_of_run' 8 (by kernel_rfl) (by kernel_rfl)) (by kernel_rfl) (by kernel_rfl)
theorem kind_read {W : World} {m f0 : Nat} {cs : List Value} {y : DataW (List UInt8) × List MemPlace} {a b : Int} {c : UInt8} {r : List UInt8} (hone : ((List.range Tryd.prog.funcs.size).filter fun f => (Tryd.prog.funcs[f]?).any (·.name.toUTF8.data.toList == c :: r)) = [f0])
    (h : DataW.trod (funcToken Tryd.prog) Tryd.prog W 0 (fun _ => true) true m 78 cs = some y) (hy : y.1 = .agg [.lit (.int .i64 a), .lit (.int .i64 b), .held (c :: r)]) : cs = [.int .i64 a, .int .i64 b, .func (.func f0) #[] #[]] := by
  obtain ⟨g0, g1, g2, hu, t0, t1, o0, o1, o2, ps, rs, va, hft⟩ : ∃ g0 g1 g2 : Field, Tryd.prog.underlying 78 = some (.struct #[g0, g1, g2]) ∧ g0.type = 3 ∧ g1.type = 3 ∧ g0.offset = 0 ∧ g1.offset = 1 ∧ g2.offset = 2 ∧ ∃ ps rs va, Tryd.prog.underlying g2.type = some (.func ps rs va) := by
    rw [show Tryd.prog.underlying 78 = Tryd.prog.underlying 77 from by kernel_rfl, Tryd.underlying77]
    exact ⟨_, _, _, rfl, rfl, rfl, rfl, rfl, rfl, _, _, _, Tryd.underlying76⟩
  obtain ⟨y0, y1, y2, n, he, hl, h0, h1, h2⟩ := trod_struct3 hu h
  rw [k78] at hl
  obtain ⟨c0, c1, c2, rfl⟩ := list3 hl
  subst he
  simp only [DataW.agg.injEq, List.cons.injEq, and_true] at hy
  obtain ⟨hy0, hy1, hy2⟩ := hy
  rw [t0, o0, k3] at h0
  rw [t1, o1, k3] at h1
  have hc : Tryd.prog.cellsOf g2.type = 1 := by
    have h3 : (∀ g0 g1 g2 : Field, Tryd.prog.underlying 78 = some (.struct #[g0, g1, g2]) → Tryd.prog.cellsOf g2.type = 1) := by
      rw [show Tryd.prog.underlying 78 = Tryd.prog.underlying 77 from by kernel_rfl, Tryd.underlying77]
      intro g0 g1 g2 hh
      simp only [Option.some.injEq, TypeDesc.struct.injEq] at hh
      cases hh
      kernel_rfl
    exact h3 g0 g1 g2 hu
  rw [hc, o2] at h2
  obtain ⟨z, e0, e0', _⟩ := DataW.trod_int u3 h0
  obtain ⟨z1, e1, e1', _⟩ := DataW.trod_int u3 h1
  simp only [List.drop_zero, List.take_succ_cons, List.take_zero, List.drop_succ_cons, List.cons.injEq, and_true] at e0 e1 h2
  rw [e0'] at hy0
  rw [e1'] at hy1
  simp only [DataW.lit.injEq, Lit.int.injEq, true_and] at hy0 hy1
  obtain ⟨d2, q2⟩ := y2
  simp only at hy2
  subst hy2
  have h3 := Go.func_of_trod hft hone h2
  rw [e0, e1, h3, hy0, hy1]
theorem kinds_of_laid {W : World} (h : laidMetH Tryd.prog laidL W) : Kinds (Old W) W := by
  obtain ⟨g, t, cs, fuel, p, hg, ht, hv, hd⟩ := h.funcs (List.mem_singleton.2 rfl)
  obtain rfl := Option.some.inj (gKinds.symm.trans hg)
  obtain rfl := Option.some.inj (tKinds.symm.trans ht)
  obtain ⟨xs, m, rfl, hx1, hlen, hn4, hel⟩ := DataW.trod_array u79 hd
  rw [k78] at hel
  simp only [Prod.mk.injEq, DataW.funcsOut, DataW.funcsOutAll, DataW.agg.injEq] at hx1
  obtain ⟨hx, _⟩ := hx1
  match xs, hn4, hx, hel with
  | [x0, x1, x2, x3], _, hx, hel =>
    simp only [List.map_cons, List.map_nil, List.cons.injEq, and_true] at hx
    obtain ⟨q0, q1, q2, q3⟩ := hx
    have r0 := kind_read (f0 := 88) (by kernel_rfl) (hel 0 (by decide)) q0.symm
    have r1 := kind_read (f0 := 90) (by kernel_rfl) (hel 1 (by decide)) q1.symm
    have r2 := kind_read (f0 := 91) (by kernel_rfl) (hel 2 (by decide)) q2.symm
    have r3 := kind_read (f0 := 93) (by kernel_rfl) (hel 3 (by decide)) q3.symm
    intro o j v ho hj
    have hj3 : j < 3 := by have := (List.getElem?_eq_some_iff.1 hj).1; rw [kcl] at this; exact this
    have key : (cs.toList.drop (o * 3)).take 3 = kindC o := by
      have : o = 0 ∨ o = 1 ∨ o = 2 ∨ o = 3 := by omega
      rcases this with rfl | rfl | rfl | rfl
      · exact r0
      · exact r1
      · exact r2
      · exact r3
    have hcell : W.cell? ⟨0, o * 3 + j, none⟩ = some v := by
      rw [← key, List.getElem?_take, if_pos hj3, List.getElem?_drop] at hj
      have := World.var?_cell hg hv (o * 3 + j)
      rw [this, ← Array.getElem?_toList]; exact hj
    exact .rd (cell_lt hcell).1 hcell
end Go.Proofs.YtefkmiomldhmjaaDoor
