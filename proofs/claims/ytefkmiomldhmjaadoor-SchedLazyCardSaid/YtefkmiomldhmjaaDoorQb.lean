/- Several texts in one. -/
import Derived.Test.YtefkmiomldhmjaaDoorQa
import Derived.ProofKit
import Derived.Deep.Slices
import Derived.Laws.StructEq
/- Results in memory; parts of arrays that are written; calls through interfaces that may panic; a copy. -/
namespace Go.Sl
section
variable {F : Fence} {P : Program} {S : Nat → Prop} {w0 w : World} {n : Nat} {Q : Exit → Act → World → Prop} {ds : List Deferred} {σ : Env} {η : Heap} {ops : Array Oper} {rest : List Oper} {d : Nat} {ty : TypeId} {pos : String} {af : Array Edge}

theorem run_loadCells {cs : List Value} {sz b o : Nat} (hl : cs.length = sz) (hv : ∀ i v, cs[i]? = some v → At S w0 η ⟨b, o + i, none⟩ v) (hh : Hp S w0 η w) : (loadCells ⟨b, o, none⟩ sz).run P w = .ok cs.toArray w := by
  unfold loadCells
  rw [run_loadCellsFrom rfl (fun i => cs.getD i undef) sz 0 #[] (fun j _ h2 => by
    have h3 : cs[j]? = some (cs.getD j undef) := by
      have : j < cs.length := by omega
      simp [List.getD_eq_getElem?_getD, this]
    have h4 := (hv j _ h3).cell hh
    have : (⟨b, o, none⟩ : Addr).add j = ⟨b, o + j, none⟩ := by
      unfold Addr.add; split
      · subst_vars; rfl
      · rfl
    rw [this]; exact h4)]
  congr 1
  simp only [Array.empty_append]
  congr 1
  apply List.ext_getElem?
  intro i
  rw [List.getElem?_map]
  by_cases hi : i < sz
  · rw [List.getElem?_range' hi]; simp [List.getD_eq_getElem?_getD, hl, hi]
  · simp [hl, hi]

/-- The end of a function whose one result lies in memory: several cells. -/
theorem TQ.retC {fn : Func} {c : Nat} {ct : TypeId} [Ag P ct true] {z : Value} {sz bt : Nat} [Inf P ct z sz bt] (cs : List Value) {b : Nat} {R : Value → Heap → Prop} (η2 : Heap) (hr : fn.results = #[ResultVar.cell c ct]) (hc : lk σ c = some (.pointer (some ⟨b, 0, none⟩)))
    (hl : cs.length = sz) (hv : ∀ i v, cs[i]? = some v → At S w0 η ⟨b, 0 + i, none⟩ v) (hs : η2.Sublist η) (hR : R (.agg cs.toArray) η2) : TQ S w0 n (bodyPost P fn (post R S w0) .ret) [] σ η := fun a w hk hh => by
  refine ⟨hk.defers, .agg cs.toArray, ?_, _, η2, rfl, hh.seg hs, hR⟩
  have hc2 := hk.slot _ _ hc
  unfold results
  rw [hr]
  simp [Array.getD_eq_getD_getElem?, hc2, asAddr, loadVar, Ag.eq (t := ct) (b := true), run_sizeOf (t := ct) (z := z) (sz := sz) (bt := bt), run_loadCells hl hv hh]
/-- The same: one cell. -/
theorem TQ.retC1 {fn : Func} {c : Nat} {ct : TypeId} [Ag P ct false] {b : Nat} {x : Value} {R : Value → Heap → Prop} (η2 : Heap) (hr : fn.results = #[ResultVar.cell c ct]) (hc : lk σ c = some (.pointer (some ⟨b, 0, none⟩)))
    (hx : At S w0 η ⟨b, 0, none⟩ x) (hs : η2.Sublist η) (hR : R x η2) : TQ S w0 n (bodyPost P fn (post R S w0) .ret) [] σ η := fun a w hk hh => by
  refine ⟨hk.defers, x, ?_, _, η2, rfl, hh.seg hs, hR⟩
  have hc2 := hk.slot _ _ hc
  unfold results
  rw [hr]
  simp [Array.getD_eq_getD_getElem?, hc2, asAddr, run_loadVar1 (hx.cell hh)]

/-- A store of several cells in the midst of a block. -/
theorem TL.storeAs (hF : Open F) {t : TypeId} {z : Value} {sz bt : Nat} [Inf P t z sz bt] {x y : Operand} {b o : Nat} (vs new : List Value) (i : Nat) {cs : List Value} {e : TypeId} (hx : ev σ x = some (.pointer (some ⟨b, o, none⟩))) (hy : ev σ y = some (.agg vs.toArray))
    (hi : η[i]? = some [(b, .cells cs.toArray e (0, 0))]) (hl : vs.length = sz) (hv : ∀ v ∈ vs, v.oneCell' = true) (ho : o + sz ≤ cs.length) (hnew : cs.take o ++ vs ++ cs.drop (o + vs.length) = new) (h : TL F P S w0 n ops Q rest ds σ (η.set i [(b, .cells new.toArray e (0, 0))])) :
    TL F P S w0 n ops Q (⟨none, .store t x y, ty, pos, af, none⟩ :: rest) ds σ η := by
  refine TL.storeAI hF (z := z) (bt := bt) vs i hx hy hi hl hv (by simpa using ho) ?_
  rw [foldl_set vs cs.toArray o (by simp; omega)]
  rw [hnew]; exact h

theorem TL.invokeE (hF : Open F) {rv : Operand} {m : String} {args : Array Operand} {ats : Array TypeId} {g : FuncId} {t : TypeId} {x rcv : Value} {vs : List Value} [Ent P g] {R : Value → Heap → Prop} {E : List PanicEntry → Heap → Prop}
    (hrv : ev σ rv = some (.iface t x)) (ha : evs σ args.toList = some vs) (hm : ∀ w, (method (P.types.size + Made.depth) t x m).run P w = .ok (g, rcv) w)
    (hc : RtE P g (rcv :: vs).toArray S w0 η R E) (hn : Nat.blt d n = true) (h : ∀ v η', R v η' → TL F P S w0 n ops Q rest ds ((d, v) :: σ) η') (he : ∀ ch η', E ch η' → TQ S w0 n (Q (.panic ch)) ds σ η') :
    TL F P S w0 n ops Q (⟨some d, .call ⟨.invoke rv m, args, ats⟩, ty, pos, af, none⟩ :: rest) ds σ η :=
  TL.invokeG hF hrv ha hm hc (fun v η' hr _a _w hk hh => h v η' hr _ _ (hk.put (Nat.le_of_ble_eq_true hn) v) hh) he

/-- A look into a map of booleans. -/
theorem TL.lookupB (hF : Open F) {t kt et : TypeId} [Und P t (.map kt et)] {sz bt : Nat} [Inf P et (.bool false) sz bt] {α : Type} [DecidableEq α] {K : α → Value} [MKey P kt K] {m : List (α × Bool)} {es : Array MapEntry} {clock b : Nat} (k : α)
    {x y : Operand} (hx : ev σ x = some (.map (some b))) (hy : ev σ y = some (K k)) (hb : [(b, .map es clock)] ∈ η) (hm : MObj K Value.bool m es clock) (hn : Nat.blt d n = true)
    (h : TL F P S w0 n ops Q rest ds ((d, .bool ((mget k m).getD false)) :: σ) η) : TL F P S w0 n ops Q (⟨some d, .lookup t x y false, ty, pos, af, none⟩ :: rest) ds σ η :=
  TL.lookup hF Value.bool k hx hy hb hm hn (by
    have e : (mget k m).elim (Value.bool false) Value.bool = .bool ((mget k m).getD false) := by cases mget k m <;> rfl
    rw [e]; exact h)
theorem TL.lookupOkB (hF : Open F) {t kt et : TypeId} [Und P t (.map kt et)] {sz bt : Nat} [Inf P et (.bool false) sz bt] {α : Type} [DecidableEq α] {K : α → Value} [MKey P kt K] {m : List (α × Bool)} {es : Array MapEntry} {clock b : Nat} (k : α)
    {x y : Operand} (hx : ev σ x = some (.map (some b))) (hy : ev σ y = some (K k)) (hb : [(b, .map es clock)] ∈ η) (hm : MObj K Value.bool m es clock) (hn : Nat.blt d n = true)
    (h : TL F P S w0 n ops Q rest ds ((d, .tuple #[.bool ((mget k m).getD false), .bool (mget k m).isSome]) :: σ) η) : TL F P S w0 n ops Q (⟨some d, .lookup t x y true, ty, pos, af, none⟩ :: rest) ds σ η :=
  TL.lookupOk hF Value.bool k hx hy hb hm hn (by
    have e : (mget k m).elim (Value.bool false) Value.bool = .bool ((mget k m).getD false) := by cases mget k m <;> rfl
    rw [e]; exact h)
theorem own_list {b i : Nat} {cs : List Value} {e : TypeId} {fz : Nat × Nat} (h : η[i]? = some [(b, Obj.cells cs.toArray e fz)]) : ∀ j v, cs[j]? = some v → At S w0 η ⟨b, 0 + j, none⟩ v := fun j v hj => by
  rw [Nat.zero_add]; exact At.own' h (by simpa using hj)
/-- A call that goes through, or panics, and turns nothing. -/
theorem TL.callM (hF : Open F) {f : Operand} {args : Array Operand} {ats : Array TypeId} {g : FuncId} {al : List Value} [Ent P g] {A B : Prop} {c0 : List PanicEntry}
    (hc : RtE P g al.toArray S w0 η (fun _ η' => A ∧ η' = η) (fun ch η' => B ∧ ch = c0 ∧ η' = η)) (ha : callOf σ f args = some (g, al)) (hn : Nat.blt d n = true) (h : A → ∀ v, TL F P S w0 n ops Q rest ds ((d, v) :: σ) η) (he : B → TQ S w0 n (Q (.panic c0)) ds σ η) :
    TL F P S w0 n ops Q (⟨some d, .call ⟨.value f, args, ats⟩, ty, pos, af, none⟩ :: rest) ds σ η :=
  TL.callE hF hc ha hn (fun v η' hr => by obtain ⟨h1, rfl⟩ := hr; exact h h1 v) (fun ch η' hr => by obtain ⟨h1, rfl, rfl⟩ := hr; exact he h1)
theorem TL.invokeM (hF : Open F) {rv : Operand} {m : String} {args : Array Operand} {ats : Array TypeId} {g : FuncId} {t : TypeId} {x rcv : Value} {vs : List Value} [Ent P g] {A B : Prop} {c0 : List PanicEntry}
    (hrv : ev σ rv = some (.iface t x)) (ha : evs σ args.toList = some vs) (hm : ∀ w, (method (P.types.size + Made.depth) t x m).run P w = .ok (g, rcv) w)
    (hc : RtE P g (rcv :: vs).toArray S w0 η (fun _ η' => A ∧ η' = η) (fun ch η' => B ∧ ch = c0 ∧ η' = η)) (hn : Nat.blt d n = true) (h : A → ∀ v, TL F P S w0 n ops Q rest ds ((d, v) :: σ) η) (he : B → TQ S w0 n (Q (.panic c0)) ds σ η) :
    TL F P S w0 n ops Q (⟨some d, .call ⟨.invoke rv m, args, ats⟩, ty, pos, af, none⟩ :: rest) ds σ η :=
  TL.invokeE hF hrv ha hm hc hn (fun v η' hr => by obtain ⟨h1, rfl⟩ := hr; exact h h1 v) (fun ch η' hr => by obtain ⟨h1, rfl, rfl⟩ := hr; exact he h1)
end
end Go.Sl
/- Ranges over functions: their ends; loops that leave marks. -/
namespace Go.Sl
section
variable {F : Fence} {P : Program} {S : Nat → Prop} {w0 w : World} {n : Nat} {Q : Exit → Act → World → Prop} {ds : List Deferred} {σ : Env} {η : Heap} {ops : Array Oper} {rest : List Oper} {d : Nat} {ty : TypeId} {pos : String} {af : Array Edge}

theorem TQ.swapT {tl tl' : Heap} {body : Code} {Q' : Exit → Act → World → Prop} (η1 : Heap) (he : η = η1 ++ tl) (h : T F P S w0 n Q body ds σ (η1 ++ tl')) : TQ S w0 n (Exit.then (Swap S w0 tl tl' fun a w => body.wpIn F 0 P Q a w) Q' .normal) ds σ η := TQ.swap η1 he h

theorem own_listM {b : Nat} {cs : List Value} {e : TypeId} {fz : Nat × Nat} (h : [(b, Obj.cells cs.toArray e fz)] ∈ η) : ∀ j v, cs[j]? = some v → At S w0 η ⟨b, 0 + j, none⟩ v := fun j v hj => by
  rw [Nat.zero_add]; exact .own _ h cs.toArray e fz (by simp) (by simpa using hj) rfl

/-- The end of a function behind its marks. -/
theorem TQ.retL0 {fn : Func} (ts : List Nat) (vs : List Value) {v : Value} {R : Value → Heap → Prop} (hr : fn.results = (ts.map ResultVar.tmp).toArray) (hv : lks σ ts = some vs) (he : retVal vs = v) (hR : R v η) :
    TQ S w0 n (bodyPostL P fn (post R S w0) .ret) [] σ η := fun a w hk hh => by
  show Lv P fn a.tmps (post R S w0) a.defers .returning w
  rw [hk.defers]
  exact ⟨v, by rw [results_run hr hk (lks_map hv), retVal_eq, he], v, η, rfl, hh, hR⟩
theorem TQ.retLC1 {fn : Func} {c : Nat} {ct : TypeId} [Ag P ct false] {b : Nat} {x : Value} {R : Value → Heap → Prop} (η2 : Heap) (hr : fn.results = #[ResultVar.cell c ct]) (hc : lk σ c = some (.pointer (some ⟨b, 0, none⟩)))
    (hx : At S w0 η ⟨b, 0, none⟩ x) (hs : η2.Sublist η) (hR : R x η2) : TQ S w0 n (bodyPostL P fn (post R S w0) .ret) [] σ η := fun a w hk hh => by
  show Lv P fn a.tmps (post R S w0) a.defers .returning w
  rw [hk.defers]
  refine ⟨x, ?_, x, η2, rfl, hh.seg hs, hR⟩
  have hc2 := hk.slot _ _ hc
  unfold results
  rw [hr]
  simp [Array.getD_eq_getD_getElem?, hc2, asAddr, run_loadVar1 (hx.cell hh)]

/-- Marks, and their places. -/
def marksH (rs : List Nat) : Heap := rs.map fun r => [(r, .deferred (some []))]
theorem TQ.marks {fn : Func} {R : Value → Heap → Prop} {e : Exit} {dsr : List Deferred} (he : e = .ret ∨ ∃ ch, e = .panic ch) (h : TQ S w0 n (bodyPostL P fn (post R S w0) e) dsr σ η) :
    ∀ rs : List Nat, TQ S w0 n (bodyPostL P fn (post R S w0) e) (marksOf rs ++ dsr) σ (marksH rs ++ η)
  | [] => h
  | _r :: rs => TQ.mark (i := 0) he rfl (TQ.pop (TQ.marks he h rs))

/-- A loop whose rounds leave marks. -/
theorem T.loopD {c : Code} {ι : Type} (J : ι → Prop) (sg : ι → Env) (hp : ι → Heap) (sd : ι → List Deferred) (μ : ι → Nat) (i0 : ι) (h0 : J i0) (hs : Sub (sg i0) σ) (he : η = hp i0) (hd : ds = sd i0)
    (round : ∀ i, J i → T F P S w0 n (Exit.then (fun a w => ∃ j, J j ∧ μ j < μ i ∧ Kn n (sd j) (sg j) a ∧ Hp S w0 (hp j) w) Q) c (sd i) (sg i) (hp i)) :
    T F P S w0 n Q (.loop c) ds σ η := fun a w hk hh => by
  refine wpIn_loopR (fun m a w => ∃ i, J i ∧ μ i = m ∧ Kn n (sd i) (sg i) a ∧ Hp S w0 (hp i) w) ?_ (m := μ i0) ⟨i0, h0, rfl, hd ▸ hk.sub hs, he ▸ hh⟩
  rintro m a w ⟨i, hi, rfl, hk, hh⟩
  refine wpIn_mono (round i hi a w hk hh) ?_
  intro e a' w' hq
  cases e with
  | normal => obtain ⟨j, h1, h2, h3, h4⟩ := hq; exact ⟨_, h2, j, h1, rfl, h3, h4⟩
  | _ => exact hq
theorem TQ.roundD {ι : Type} {J : ι → Prop} {sg : ι → Env} {hp : ι → Heap} {sd : ι → List Deferred} {μ : ι → Nat} {i : ι} (j : ι) (hj : J j) (hm : μ j < μ i) (hs : Sub (sg j) σ) (he : η = hp j) (hd : ds = sd j) :
    TQ S w0 n (Exit.then (fun a w => ∃ j, J j ∧ μ j < μ i ∧ Kn n (sd j) (sg j) a ∧ Hp S w0 (hp j) w) Q .normal) ds σ η := fun _ _ hk hh => ⟨j, hj, hm, hd ▸ hk.sub hs, he ▸ hh⟩
end
end Go.Sl
/- Copies. -/
namespace Go.Sl
section
variable {F : Fence} {P : Program} {S : Nat → Prop} {w0 w : World} {n : Nat} {Q : Exit → Act → World → Prop} {ds : List Deferred} {σ : Env} {η : Heap} {ops : Array Oper} {rest : List Oper} {d : Nat} {ty : TypeId} {pos : String} {af : Array Edge}

/-- A copy, into a part of an owned block. -/
theorem TL.copy (hF : Open F) (i : Nat) {t ts e : TypeId} [Und P t (.slice e)] {z : Value} {sz bt : Nat} [Inf P e z sz bt] {x y : Operand} {g o dl dc m mc k : Nat} {a : Option Addr} {cs : List Value} {e' : TypeId} (news new : List Value) (hx : ev σ x = some (.slice (some ⟨g, o, none⟩) dl dc)) (hy : ev σ y = some (.slice a m mc))
    (hi : η[i]? = some [(g, .cells cs.toArray e' (0, 0))]) (hk : k = min m dl) (hs : Row S w0 η a news) (hl : news.length = k * sz) (h1 : ∀ u ∈ news, u.oneCell' = true) (ho : o + k * sz ≤ cs.length) (hnew : cs.take o ++ news ++ cs.drop (o + k * sz) = new) (hn : Nat.blt d n = true)
    (h : TL F P S w0 n ops Q rest ds ((d, .int .i64 (k : Int)) :: σ) (η.set i [(g, .cells new.toArray e' (0, 0))])) :
    TL F P S w0 n ops Q (⟨some d, .call ⟨.builtin .copy, #[x, y], #[t, ts]⟩, ty, pos, af, none⟩ :: rest) ds σ η :=
  TL.val hF (by intro c; simp) hn fun b w hkn hh => by
    have hg := hh.inMem (List.mem_of_getElem? hi)
    have hfc : (Builtin.firstCells sz k (.slice a m mc)).run P w = .ok news.toArray w := by
      have h0 := run_firstCells (P := P) (m := k) (c := mc) hs hl hh
      cases a <;> exact h0
    have hst := run_storeCells (P := P) (e := e') (b := g) news cs.toArray o 0 w hg (by simp; omega) h1
    simp only [Nat.add_zero] at hst
    rw [foldl_set _ _ _ (by simp; omega)] at hst
    have hnew' : (cs.toArray.toList.take o ++ news ++ cs.toArray.toList.drop (o + news.length)) = new := by rw [hl]; exact hnew
    rw [hnew'] at hst
    refine ⟨.int .i64 (k : Int), _, _, ?_, hh.turnI hi _, h⟩
    have hk' : Nat.min m dl = k := hk.symm
    have e2 : (Builtin.copy_ #[t, ts] ty #[.slice (some ⟨g, o, none⟩) dl dc, .slice a m mc]).run P w = .ok (.int .i64 (k : Int)) (putBlk w g (.cells new.toArray e' (0, 0))) := by
      simp [Builtin.copy_, run_underlying (t := t) (d := .slice e), run_sizeOf (t := e) (z := z) (sz := sz) (bt := bt), Builtin.lenOf, hk', hfc, hst, goInt]
    simp [execOp, resolve, Go.invoke, Go.builtin, hkn.ev hx, hkn.ev hy, e2]
end
end Go.Sl
/- Integers of other kinds: sums, products, bits, shifts, remainders, conversions. -/
namespace Go.Sl
theorem wrap_u {k : IntKind} (hs : k.signed = false) {a : Int} (h0 : 0 ≤ a) (h1 : a < 2 ^ k.bits) : k.wrap a = a := by
  unfold IntKind.wrap
  simp only [hs, Bool.false_and, Bool.false_eq_true, if_false]
  exact Int.emod_eq_of_lt h0 h1
theorem wrap_u64 {a : Int} (h0 : 0 ≤ a) (h1 : a < 18446744073709551616) : IntKind.u64.wrap a = a := wrap_u rfl h0 (by simpa [IntKind.bits] using h1)
section
variable {F : Fence} {P : Program} {S : Nat → Prop} {w0 w : World} {n : Nat} {Q : Exit → Act → World → Prop} {ds : List Deferred} {σ : Env} {η : Heap} {ops : Array Oper} {rest : List Oper} {d : Nat} {ty : TypeId} {pos : String} {af : Array Edge}
theorem TL.addK (hF : Open F) {xt yt : TypeId} {x y : Operand} {k : IntKind} {a b r : Int} (hx : ev σ x = some (.int k a)) (hy : ev σ y = some (.int k b)) (hr : k.wrap (a + b) = r) (hn : Nat.blt d n = true)
    (h : TL F P S w0 n ops Q rest ds ((d, .int k r) :: σ) η) : TL F P S w0 n ops Q (⟨some d, .binOp .add xt x y yt, ty, pos, af, none⟩ :: rest) ds σ η := TL.bin hF hx hy (by simp [intOp, hr]) hn h
theorem TL.subK (hF : Open F) {xt yt : TypeId} {x y : Operand} {k : IntKind} {a b r : Int} (hx : ev σ x = some (.int k a)) (hy : ev σ y = some (.int k b)) (hr : k.wrap (a - b) = r) (hn : Nat.blt d n = true)
    (h : TL F P S w0 n ops Q rest ds ((d, .int k r) :: σ) η) : TL F P S w0 n ops Q (⟨some d, .binOp .sub xt x y yt, ty, pos, af, none⟩ :: rest) ds σ η := TL.bin hF hx hy (by simp [intOp, hr]) hn h
theorem TL.mulK (hF : Open F) {xt yt : TypeId} {x y : Operand} {k : IntKind} {a b r : Int} (hx : ev σ x = some (.int k a)) (hy : ev σ y = some (.int k b)) (hr : k.wrap (a * b) = r) (hn : Nat.blt d n = true)
    (h : TL F P S w0 n ops Q rest ds ((d, .int k r) :: σ) η) : TL F P S w0 n ops Q (⟨some d, .binOp .mul xt x y yt, ty, pos, af, none⟩ :: rest) ds σ η := TL.bin hF hx hy (by simp [intOp, hr]) hn h
theorem TL.convK (hF : Open F) {s t : TypeId} {d1 : TypeDesc} {k k' : IntKind} [Und P s d1] [Und P t (.int k)] {x : Operand} {a r : Int} (hx : ev σ x = some (.int k' a)) (hr : k.wrap a = r) (hn : Nat.blt d n = true)
    (h : TL F P S w0 n ops Q rest ds ((d, .int k r) :: σ) η) : TL F P S w0 n ops Q (⟨some d, .convert s t x, ty, pos, af, none⟩ :: rest) ds σ η :=
  TL.pure hF (by intro c; simp) hn (fun a w hk _ => by simp [execOp, hk.ev hx, convert, run_underlying (t := s) (d := d1), run_underlying (t := t) (d := .int k), Conv.intToInt, hr]) h
theorem and_toNat {b a m : Nat} (ha : a < 2 ^ b) (hm : m < 2 ^ b) : (BitVec.ofInt b (a : Int) &&& BitVec.ofInt b (m : Int)).toNat = a &&& m := by
  rw [BitVec.toNat_and, BitVec.ofInt_natCast, BitVec.ofInt_natCast, BitVec.toNat_ofNat, BitVec.toNat_ofNat, Nat.mod_eq_of_lt ha, Nat.mod_eq_of_lt hm]
theorem TL.andN (hF : Open F) {xt yt : TypeId} {x y : Operand} {k : IntKind} {a m : Nat} (hx : ev σ x = some (.int k (a : Int))) (hy : ev σ y = some (.int k (m : Int))) (hs : k.signed = false) (ha : a < 2 ^ k.bits) (hm : m < 2 ^ k.bits) (hn : Nat.blt d n = true)
    (h : TL F P S w0 n ops Q rest ds ((d, .int k ((a &&& m : Nat) : Int)) :: σ) η) : TL F P S w0 n ops Q (⟨some d, .binOp .and xt x y yt, ty, pos, af, none⟩ :: rest) ds σ η :=
  TL.pure hF (by intro c; simp) hn (fun b w hk _ => by
    have hle : a &&& m ≤ a := Nat.and_le_left
    have hw : k.wrap ((a &&& m : Nat) : Int) = ((a &&& m : Nat) : Int) := wrap_u hs (by omega) (by
      have : ((a &&& m : Nat) : Int) < ((2 ^ k.bits : Nat) : Int) := by omega
      simpa using this)
    have hb : (Op.intBits .and k (a : Int) (m : Int)).run P w = .ok (.int k ((a &&& m : Nat) : Int)) w := by
      unfold Op.intBits
      simp only [and_toNat ha hm, Sem.run_pure, hw]
    simp [execOp, hk.ev hx, hk.ev hy, eqGuard, binOp, hb]) h
theorem TL.shrN (hF : Open F) {xt yt : TypeId} {x y : Operand} {k yk : IntKind} {a s : Nat} (hx : ev σ x = some (.int k (a : Int))) (hy : ev σ y = some (.int yk (s : Int))) (hs : s ≤ k.bits) (hn : Nat.blt d n = true)
    (h : TL F P S w0 n ops Q rest ds ((d, .int k ((a / 2 ^ s : Nat) : Int)) :: σ) η) : TL F P S w0 n ops Q (⟨some d, .binOp .shr xt x y yt, ty, pos, af, none⟩ :: rest) ds σ η :=
  TL.pure hF (by intro c; simp) hn (fun b w hk _ => by
    have hb : (Op.shift .shr k (a : Int) yk (s : Int)).run P w = .ok (.int k ((a / 2 ^ s : Nat) : Int)) w := by
      unfold Op.shift
      rw [if_neg (by omega)]
      have e : min ((s : Int).toNat) k.bits = s := by rw [Int.toNat_natCast]; exact Nat.min_eq_left hs
      simp only [e, Sem.run_pure]
      rw [Int.fdiv_eq_ediv_of_nonneg _ (by exact_mod_cast Nat.zero_le (2 ^ s))]
      congr 2
    simp [execOp, hk.ev hx, hk.ev hy, eqGuard, binOp, hb]) h
theorem TL.remN (hF : Open F) {xt yt : TypeId} {x y : Operand} {k : IntKind} {a b : Nat} (hx : ev σ x = some (.int k (a : Int))) (hy : ev σ y = some (.int k (b : Int))) (hb : 0 < b) (hn : Nat.blt d n = true)
    (h : TL F P S w0 n ops Q rest ds ((d, .int k ((a % b : Nat) : Int)) :: σ) η) : TL F P S w0 n ops Q (⟨some d, .binOp .rem xt x y yt, ty, pos, af, none⟩ :: rest) ds σ η :=
  TL.pure hF (by intro c; simp) hn (fun c w hk _ => by
    have hb' : (Op.intDiv .rem k (a : Int) (b : Int)).run P w = .ok (.int k ((a % b : Nat) : Int)) w := by
      unfold Op.intDiv
      rw [if_neg (by omega)]
      simp only [Sem.run_pure]
      congr 2
    simp [execOp, hk.ev hx, hk.ev hy, eqGuard, binOp, hb']) h
end
end Go.Sl
/- Regions that draw their order, in which some operations write: pure ones are told once, heavy ones in each order that may come. -/
namespace Go.Sl

/-- What is known of the operations: place, value, kind (0: pure; 1: reads the heap; 2: carried out). -/
abbrev VL := List (Nat × Value × Nat)
def vget : VL → Nat → Option Value
  | [], _ => none
  | (i, v, _) :: r, j => bif Nat.beq i j then some v else vget r j
def execV (V : VL) : VL := V.map fun x => (x.1, x.2.1, bif Nat.beq x.2.2 1 then 2 else x.2.2)
theorem vget_cons (i : Nat) (v : Value) (k : Nat) (r : VL) (j : Nat) : vget ((i, v, k) :: r) j = if i = j then some v else vget r j := by
  simp only [vget]
  by_cases h : i = j
  · subst h; simp
  · have : Nat.beq i j = false := by
      cases hb : Nat.beq i j
      · rfl
      · exact absurd (Nat.eq_of_beq_eq_true hb) h
    simp [this, h]
theorem vget_exec : ∀ (V : VL) (j : Nat), vget (execV V) j = vget V j
  | [], _ => rfl
  | (i, v, k) :: r, j => by
    have := vget_exec r j
    show vget ((i, v, _) :: execV r) j = _
    rw [vget_cons, vget_cons, this]
theorem vget_mem : ∀ {V : VL} {j : Nat} {v : Value}, vget V j = some v → ∃ k, (j, v, k) ∈ V
  | (i, u, k) :: r, j, v, h => by
    rw [vget_cons] at h
    by_cases hij : i = j
    · rw [if_pos hij] at h; cases h; subst hij; exact ⟨k, List.mem_cons_self⟩
    · rw [if_neg hij] at h; obtain ⟨k', hk⟩ := vget_mem h; exact ⟨k', List.mem_cons_of_mem _ hk⟩
theorem mem_vget : ∀ {V : VL}, (V.map (·.1)).Nodup → ∀ {j : Nat} {v : Value} {k : Nat}, (j, v, k) ∈ V → vget V j = some v
  | (i, u, k0) :: r, hn, j, v, k, h => by
    simp only [List.map_cons, List.nodup_cons] at hn
    rw [vget_cons]
    rcases List.mem_cons.1 h with h | h
    · cases h; simp
    · have : i ≠ j := fun e => hn.1 (by rw [e]; exact List.mem_map.2 ⟨_, h, rfl⟩)
      rw [if_neg this]; exact mem_vget hn.2 h
def EnvOkV (l : List Oper) (σ : Env) (V : VL) (i : Nat) : List (Nat × Value × Option Nat) → Prop
  | [] => True
  | (t, v, some j) :: r => (waits l i j = true ∧ dstOf l j = some t ∧ vget V j = some v) ∧ EnvOkV l σ V i r
  | (t, v, none) :: r => (lk σ t = some v ∧ clean l i t = true) ∧ EnvOkV l σ V i r
theorem EnvOkV.ext {l : List Oper} {σ : Env} {V V' : VL} {i : Nat} (h : ∀ j v, vget V j = some v → vget V' j = some v) : ∀ {env : List (Nat × Value × Option Nat)}, EnvOkV l σ V i env → EnvOkV l σ V' i env
  | [], _ => trivial
  | (_t, u, some j) :: _r, he => ⟨⟨he.1.1, he.1.2.1, h j u he.1.2.2⟩, EnvOkV.ext h he.2⟩
  | (_t, _u, none) :: _r, he => ⟨he.1, EnvOkV.ext h he.2⟩
def complete (l : List Oper) (m : Nat) (V : VL) (hs : List Nat) : Bool := (List.range m).all fun i => (vget V i).isSome || hs.any (Nat.beq i) || (List.range l.length).any fun j => (vget V j).isNone && (waits l i j || waitsT l l.length i j)
def readersOk (l : List Oper) (V : VL) (h : Nat) : Bool := V.all fun x => !Nat.beq x.2.2 1 || (waits l h x.1 || waitsT l l.length h x.1)
def allEnvV (l : List Oper) (V : VL) (σ : Env) : Env := (V.filterMap fun x => (dstOf l x.1).map fun d => (d, x.2.1)) ++ σ
def dstsOk (l : List Oper) (m : Nat) : Bool := Nat.ble m l.length && distinct ((List.range m).map (dstOf l))

section
variable {F : Fence} {P : Program} {S : Nat → Prop} {w0 w : World} {n : Nat} {Q : Exit → Act → World → Prop} {l : List Oper} {ds : List Deferred} {σ : Env} {η : Heap}
structure InvD (S : Nat → Prop) (w0 : World) (n : Nat) (l : List Oper) (ds : List Deferred) (σ : Env) (V : VL) (η : Heap) (L : Array Bool) (a : Act) (w : World) : Prop where
  size : L.size = l.length
  dom : ∀ i, L[i]? = some true → (vget V i).isSome = true
  done : ∀ i v, (i, v, 2) ∈ V → L[i]? = some true
  down : ∀ k j, waits l k j = true → L[k]? = some true → L[j]? = some true
  tsize : a.tmps.size = n
  defers : a.defers = ds
  old : ∀ t v, lk σ t = some v → (∀ k, L[k]? = some true → dstOf l k ≠ some t) → a.tmps[t]? = some v
  new : ∀ i v d, L[i]? = some true → vget V i = some v → dstOf l i = some d → a.tmps[d]? = some v
  hp : Hp S w0 η w
def QSV (F : Fence) (P : Program) (S : Nat → Prop) (w0 : World) (n : Nat) (l : List Oper) (ds : List Deferred) (σ : Env) (V : VL) (η : Heap) (i : Nat) (v : Value) : Prop :=
  ∃ o d env, l[i]? = some o ∧ o.dst = some d ∧ EnvOkV l σ V i env ∧ ∀ ext : Env, TL F P S w0 n l.toArray (Fin S w0 n ds η ((d, v) :: (envs env ++ ext))) [o] ds (envs env ++ ext) η
theorem QSV.ext {V V' : VL} {i : Nat} {v : Value} (h : ∀ j v, vget V j = some v → vget V' j = some v) (hq : QSV F P S w0 n l ds σ V η i v) : QSV F P S w0 n l ds σ V' η i v := by
  obtain ⟨o, d, env, h1, h2, h3, h4⟩ := hq
  exact ⟨o, d, env, h1, h2, h3.ext h, h4⟩
def DH (F : Fence) (P : Program) (S : Nat → Prop) (w0 : World) (n : Nat) (l : List Oper) (ds : List Deferred) (σ : Env) (Q : Exit → Act → World → Prop) (m : Nat) (V : VL) (η : Heap) : Prop :=
  (V.map (·.1)).Nodup → (∀ i v, (i, v, 0) ∈ V → ∀ η', QSV F P S w0 n l ds σ V η' i v) → (∀ i v, (i, v, 1) ∈ V → QSV F P S w0 n l ds σ V η i v) → (∀ i v k, (i, v, k) ∈ V → i < m ∧ (k = 0 ∨ k = 1 ∨ k = 2)) →
    ∀ f L a w, L.toList.countP (· == false) = f → InvD S w0 n l ds σ V η L a w → wpAnyIn F 0 P .any l.toArray Q f L a w

variable {m : Nat} {V : VL}
theorem DH.quiet {k0 i : Nat} {v : Value} (hk0 : k0 = 0 ∨ k0 = 1) (him : Nat.blt i m = true) (hnew : vget V i = none) (hq0 : k0 = 0 → ∀ η', QSV F P S w0 n l ds σ V η' i v) (hq1 : k0 = 1 → QSV F P S w0 n l ds σ V η i v) (h : DH F P S w0 n l ds σ Q m ((i, v, k0) :: V) η) : DH F P S w0 n l ds σ Q m V η := by
  intro hn h0 h1 hk f L a w hc hi
  have hext : ∀ j u, vget V j = some u → vget ((i, v, k0) :: V) j = some u := by
    intro j u hj
    rw [vget_cons]
    by_cases e : i = j
    · subst e; rw [hnew] at hj; cases hj
    · rw [if_neg e]; exact hj
  have hni : i ∉ V.map (·.1) := by
    intro hm
    obtain ⟨⟨j, u, k⟩, hx, he⟩ := List.mem_map.1 hm
    simp only at he; subst he
    have := mem_vget hn hx
    rw [hnew] at this; cases this
  refine h (List.nodup_cons.2 ⟨hni, hn⟩) ?_ ?_ ?_ f L a w hc ⟨hi.size, ?_, ?_, hi.down, hi.tsize, hi.defers, hi.old, ?_, hi.hp⟩
  · intro j u hm η'
    rcases List.mem_cons.1 hm with e | hm
    · cases e; exact (hq0 rfl η').ext hext
    · exact (h0 j u hm η').ext hext
  · intro j u hm
    rcases List.mem_cons.1 hm with e | hm
    · cases e; exact (hq1 rfl).ext hext
    · exact (h1 j u hm).ext hext
  · intro j u k hm
    rcases List.mem_cons.1 hm with e | hm
    · cases e; exact ⟨Nat.le_of_ble_eq_true him, by rcases hk0 with h | h <;> simp [h]⟩
    · exact hk j u k hm
  · intro j hj
    have := hi.dom j hj
    cases hv : vget V j with
    | none => simp [hv] at this
    | some u => rw [hext j u hv]; rfl
  · intro j u hm
    rcases List.mem_cons.1 hm with e | hm
    · cases e; rcases hk0 with h | h <;> cases h
    · exact hi.done j u hm
  · intro j u d hj hv hd
    rw [vget_cons] at hv
    by_cases e : i = j
    · subst e
      have := hi.dom i hj
      rw [hnew] at this; simp at this
    · rw [if_neg e] at hv; exact hi.new j u d hj hv hd
/-- A pure operation. -/
theorem DH.pure {i : Nat} {v : Value} (env : List (Nat × Value × Option Nat)) {o : Oper} {d : Nat} (ho : l[i]? = some o) (hd : o.dst = some d) (him : Nat.blt i m = true) (hnew : vget V i = none) (he : EnvOkV l σ V i env)
    (hop : ∀ (η : Heap) (ext : Env), TL F P S w0 n l.toArray (Fin S w0 n ds η ((d, v) :: (envs env ++ ext))) [o] ds (envs env ++ ext) η) (h : DH F P S w0 n l ds σ Q m ((i, v, 0) :: V) η) : DH F P S w0 n l ds σ Q m V η :=
  DH.quiet (.inl rfl) him hnew (fun _ η' => ⟨o, d, env, ho, hd, he, hop η'⟩) (fun e => by cases e) h
/-- An operation that reads the heap. -/
theorem DH.read {i : Nat} {v : Value} (env : List (Nat × Value × Option Nat)) {o : Oper} {d : Nat} (ho : l[i]? = some o) (hd : o.dst = some d) (him : Nat.blt i m = true) (hnew : vget V i = none) (he : EnvOkV l σ V i env)
    (hop : ∀ ext : Env, TL F P S w0 n l.toArray (Fin S w0 n ds η ((d, v) :: (envs env ++ ext))) [o] ds (envs env ++ ext) η) (h : DH F P S w0 n l ds σ Q m ((i, v, 1) :: V) η) : DH F P S w0 n l ds σ Q m V η :=
  DH.quiet (.inr rfl) him hnew (fun e => by cases e) (fun _ => ⟨o, d, env, ho, hd, he, hop⟩) h

/-- What is asked behind a heavy operation. -/
def QB (F : Fence) (P : Program) (S : Nat → Prop) (w0 : World) (n : Nat) (l : List Oper) (ds : List Deferred) (σ : Env) (Q : Exit → Act → World → Prop) (m : Nat) (V : VL) (h d : Nat) (σ' : Env) : Exit → Act → World → Prop
  | .normal, a, w => ∃ v η', Kn n ds ((d, v) :: σ') a ∧ Hp S w0 η' w ∧ DH F P S w0 n l ds σ Q m ((h, v, 2) :: execV V) η'
  | e, a, w => Q e a w
theorem TL.finD {h d : Nat} {σ' : Env} {v : Value} {ops : Array Oper} (hd : DH F P S w0 n l ds σ Q m ((h, v, 2) :: execV V) η) : TL F P S w0 n ops (QB F P S w0 n l ds σ Q m V h d σ') [] ds ((d, v) :: σ') η := TL.nil fun _ _ hk hh => ⟨v, η, hk, hh, hd⟩
/-- A heavy operation that may come next. -/
def HB (F : Fence) (P : Program) (S : Nat → Prop) (w0 : World) (n : Nat) (l : List Oper) (ds : List Deferred) (σ : Env) (Q : Exit → Act → World → Prop) (m : Nat) (V : VL) (η : Heap) (h : Nat) : Prop :=
  ∃ o d env, l[h]? = some o ∧ o.dst = some d ∧ Nat.blt h m = true ∧ vget V h = none ∧ EnvOkV l σ V h env ∧ readersOk l V h = true ∧ ∀ ext : Env, TL F P S w0 n l.toArray (QB F P S w0 n l ds σ Q m V h d (envs env ++ ext)) [o] ds (envs env ++ ext) η

theorem InvD.env {L : Array Bool} {a : Act} (hi : InvD S w0 n l ds σ V η L a w) {i : Nat} (hL : L[i]? = some false) (hready : ∀ j, waits l i j = true → L[j]? = some true) :
    ∀ {env : List (Nat × Value × Option Nat)}, EnvOkV l σ V i env → ∀ t v, lk (envs env) t = some v → a.tmps[t]? = some v
  | [], _, t, v, h => by simp [envs, lk] at h
  | (s, u, some j) :: r, he, t, v, h => by
    simp only [envs] at h
    rw [lk_cons] at h
    by_cases hst : s = t
    · rw [if_pos hst] at h
      cases h; subst hst
      exact hi.new j u s (hready j he.1.1) he.1.2.2 he.1.2.1
    · rw [if_neg hst] at h
      exact InvD.env hi hL hready he.2 t v h
  | (s, u, none) :: r, he, t, v, h => by
    simp only [envs] at h
    rw [lk_cons] at h
    by_cases hst : s = t
    · rw [if_pos hst] at h
      cases h; subst hst
      refine hi.old s u he.1.1 fun k hk1 hk2 => ?_
      have hc := he.1.2
      simp only [clean, List.all_eq_true, List.mem_range, Bool.or_eq_true] at hc
      have hkl : k < l.length := by have := (Array.getElem?_eq_some_iff.1 hk1).1; rw [hi.size] at this; exact this
      rcases hc k hkl with (h1 | h1 | h1) | h1
      · rw [hk2] at h1; simp at h1
      · have := hi.down k i h1 hk1
        rw [hL] at this; cases this
      · have := waitsT_done hi.down _ k i (fun i' hi' => hi.down k i' hi' hk1) h1
        rw [hL] at this; cases this
      · have : k = i := Nat.eq_of_beq_eq_true h1
        subst this
        rw [hL] at hk1; cases hk1
    · rw [if_neg hst] at h
      exact InvD.env hi hL hready he.2 t v h

/-- One operation has been carried out. -/
theorem InvD.put {V' : VL} {η' : Heap} {L : Array Bool} {a a' : Act} {w' : World} (hi : InvD S w0 n l ds σ V η L a w) (hq : dstsOk l m = true) {i d : Nat} {v : Value} (him : i < m) (hL : L[i]? = some false) (hready : ∀ j, waits l i j = true → L[j]? = some true)
    (hV : ∀ j u, vget V j = some u → vget V' j = some u) (hV' : ∀ j u, j ≠ i → vget V' j = some u → vget V j = some u) (hvi : vget V' i = some v) (hdom : ∀ j, (vget V j).isSome = true → j < m) (hdi : dstOf l i = some d)
    (hdone : ∀ j u, (j, u, 2) ∈ V' → j = i ∨ L[j]? = some true)
    (hs : a'.tmps.size = n) (hds : a'.defers = ds) (hd : a'.tmps[d]? = some v) (ho : ∀ t u, t ≠ d → a.tmps[t]? = some u → a'.tmps[t]? = some u) (hh : Hp S w0 η' w') : InvD S w0 n l ds σ V' η' (L.setIfInBounds i true) a' w' := by
  have hil := (Array.getElem?_eq_some_iff.1 hL).1
  have hset : ∀ k, (L.setIfInBounds i true)[k]? = some true ↔ k = i ∨ L[k]? = some true := by
    intro k
    rw [Array.getElem?_setIfInBounds]
    by_cases e : i = k
    · subst e; simp [hil]
    · rw [if_neg e]
      constructor
      · exact .inr
      · rintro (h | h)
        · exact absurd h.symm e
        · exact h
  have hq' : quietOk l m = true := hq
  refine ⟨by simp [hi.size], ?_, ?_, ?_, hs, hds, ?_, ?_, hh⟩
  · intro k hk
    rcases (hset k).1 hk with e | hk
    · subst e; rw [hvi]; rfl
    · have := hi.dom k hk
      cases hv : vget V k with
      | none => simp [hv] at this
      | some u => rw [hV k u hv]; rfl
  · intro j u hj
    rcases hdone j u hj with e | h
    · exact (hset j).2 (.inl e)
    · exact (hset j).2 (.inr h)
  · intro k j hw hk
    rcases (hset k).1 hk with e | hk
    · subst e; exact (hset j).2 (.inr (hready j hw))
    · exact (hset j).2 (.inr (hi.down k j hw hk))
  · intro t u ht hno
    have hne : t ≠ d := fun e => hno i ((hset i).2 (.inl rfl)) (by rw [hdi, e])
    exact ho t u hne (hi.old t u ht fun k hk => hno k ((hset k).2 (.inr hk)))
  · intro j u d' hj hv hd'
    rcases (hset j).1 hj with e | hj2
    · subst e
      rw [hvi] at hv; cases hv
      rw [hdi] at hd'; cases hd'
      exact hd
    · have hji : j ≠ i := fun e => by subst e; rw [hL] at hj2; cases hj2
      refine ho d' u (fun e => ?_) (hi.new j u d' hj2 (hV' j u hji hv) hd')
      subst e
      exact hji (dst_ne hq' (hdom j (hi.dom j hj2)) him hd' hdi)

/-- An operation that is carried out from here. -/
theorem run_one {L : Array Bool} {a : Act} {i d : Nat} {o : Oper} {env : List (Nat × Value × Option Nat)} {QO : Env → Exit → Act → World → Prop} (hi : InvD S w0 n l ds σ V η L a w) (hL : L[i]? = some false) (hready : ∀ j, waits l i j = true → L[j]? = some true) (ho : l[i]? = some o) (henv : EnvOkV l σ V i env)
    (hop : ∀ ext : Env, TL F P S w0 n l.toArray (QO (envs env ++ ext)) [o] ds (envs env ++ ext) η) :
    wpOpIn F 0 P l.toArray (QO (envs env ++ fullEnv a)) i (fun a' w' => QO (envs env ++ fullEnv a) .normal a' w') a w ∧ (∀ v a', Kn n ds ((d, v) :: (envs env ++ fullEnv a)) a' → a'.tmps[d]? = some v ∧ ∀ t u, t ≠ d → a.tmps[t]? = some u → a'.tmps[t]? = some u) := by
  have hke : ∀ t v, lk (envs env) t = some v → a.tmps[t]? = some v := hi.env hL hready henv
  have hkn : Kn n ds (envs env ++ fullEnv a) a := ⟨hi.tsize, hi.defers, fun t v htv => by
    rcases lk_append htv with h5 | ⟨_, h5⟩
    · exact hke t v h5
    · exact lk_full a t v h5⟩
  have h6 := hop (fullEnv a) a w hkn hi.hp
  rw [wpListIn_one (i := i) (by simp [ho])] at h6
  refine ⟨wpOpIn_mono (fun a' w' hx => hx) h6, fun v a' hk' => ⟨hk'.slot d _ (by rw [lk_cons, if_pos rfl]), fun t u hne htu => ?_⟩⟩
  refine hk'.slot t u ?_
  rw [lk_cons, if_neg (Ne.symm hne)]
  have hfull : lk (fullEnv a) t = some u := by
    have := lk_full' a.tmps.toList 0 t u (by simpa using htu)
    simpa [fullEnv] using this
  have happ : ∀ (e1 : Env), (∀ v, lk e1 t = some v → v = u) → lk (e1 ++ fullEnv a) t = some u := by
    intro e1
    induction e1 with
    | nil => intro _; exact hfull
    | cons p r ihr =>
      obtain ⟨s, v⟩ := p
      intro hv
      rw [List.cons_append, lk_cons]
      by_cases hst : s = t
      · rw [if_pos hst, hv v (by rw [lk_cons, if_pos hst])]
      · rw [if_neg hst]; exact ihr fun v' hv' => hv v' (by rw [lk_cons, if_neg hst]; exact hv')
  exact happ _ fun v hv => by
    have := hke t v hv
    rw [htu] at this; cases this; rfl

/-- A node: the heavy operations that may come next; at a leaf the tail. -/
theorem DH.node (hs : List Nat) (hd : dagOk l = true) (ht : tailOk l m = true) (hq : dstsOk l m = true) (hcomp : complete l m V hs = true) (hbr : ∀ h ∈ hs, HB F P S w0 n l ds σ Q m V η h)
    (hleaf : (∀ i, i < m → (vget V i).isSome = true) → TL F P S w0 n l.toArray Q (l.drop m) ds (allEnvV l V σ) η) : DH F P S w0 n l ds σ Q m V η := by
  intro hn h0 h1 hk
  have hml : m ≤ l.length := by
    simp only [dstsOk, Bool.and_eq_true] at hq
    exact Nat.le_of_ble_eq_true hq.1
  have hdom : ∀ j, (vget V j).isSome = true → j < m := by
    intro j hj
    cases hv : vget V j with
    | none => simp [hv] at hj
    | some u => obtain ⟨k, hm⟩ := vget_mem hv; exact (hk j u k hm).1
  have last : ∀ (f : Nat) (L : Array Bool) (a : Act) (w : World), L.toList.countP (· == false) = f → InvD S w0 n l ds σ V η L a w → (∀ k, k < m → L[k]? = some true) → wpAnyIn F 0 P .any l.toArray Q f L a w := by
    intro f L a w hc hi hall
    have hsz := hi.size
    have hLq : ∀ k, L[k]? = some true → k < m := fun k hk' => hdom k (hi.dom k hk')
    have hL : ∀ j, j < l.length → L[j]? = some (decide (j < m)) := fun j hj => by
      by_cases h1 : j < m
      · rw [hall j h1]; simp [h1]
      · have hj' : j < L.size := by omega
        have : L[j]? ≠ some true := fun e => h1 (hLq j e)
        simp only [hj', Array.getElem?_eq_getElem] at this ⊢
        cases h4 : L[j] with
        | true => rw [h4] at this; exact absurd rfl this
        | false => simp [h1]
    have hLeq : L.toList = List.replicate m true ++ List.replicate (l.length - m) false := by
      apply List.ext_getElem?
      intro j
      rw [Array.getElem?_toList]
      by_cases hj : j < l.length
      · rw [hL j hj]
        by_cases h1 : j < m
        · rw [List.getElem?_append_left (by simpa using h1)]; simp [h1]
        · rw [List.getElem?_append_right (by simpa using h1)]
          rw [List.getElem?_replicate, List.length_replicate, if_pos (by omega)]
          simp [h1]
      · rw [Array.getElem?_eq_none (by omega), List.getElem?_eq_none (by simp; omega)]
    have hf : m + f = l.length := by
      rw [hLeq] at hc
      simp [List.countP_append, List.countP_replicate] at hc
      omega
    refine any_tail hd ht f m L a w hf (Nat.le_refl _) hsz hL (hleaf (fun i him => hi.dom i (hall i him)) a w ⟨hi.tsize, hi.defers, fun t v htv => ?_⟩ hi.hp)
    have hmem : ∀ t v, (t, v) ∈ (V.filterMap fun x => (dstOf l x.1).map fun d => (d, x.2.1)) → ∃ i, vget V i = some v ∧ dstOf l i = some t := by
      intro t v h
      obtain ⟨⟨i, u, k⟩, h1, h2⟩ := List.mem_filterMap.1 h
      simp only [Option.map_eq_some_iff, Prod.mk.injEq] at h2
      obtain ⟨d, hd, rfl, rfl⟩ := h2
      exact ⟨i, mem_vget hn h1, hd⟩
    rcases lk_append htv with h5 | ⟨h5, h6⟩
    · obtain ⟨i, h3, h4⟩ := hmem t v (lk_mem h5)
      exact hi.new i v t (hall i (hdom i (by rw [h3]; rfl))) h3 h4
    · refine hi.old t v h6 fun k hk1 hk2 => ?_
      have hkv := hi.dom k hk1
      cases hv : vget V k with
      | none => simp [hv] at hkv
      | some u =>
        obtain ⟨kk, hm⟩ := vget_mem hv
        refine lk_none h5 u (List.mem_filterMap.2 ⟨(k, u, kk), hm, by simp [hk2]⟩)
  intro f
  induction f with
  | zero =>
    intro L a w hc hi
    refine last 0 L a w hc hi (fun j hj => ?_)
    have hsz := hi.size
    have hj' : j < L.size := by omega
    rw [List.countP_eq_zero] at hc
    have := hc L[j] (by simp)
    simp at this
    simp [hj', this]
  | succ f ih =>
    intro L a w hc hi
    have hsz := hi.size
    by_cases hall : ∀ k, k < m → L[k]? = some true
    · exact last (f + 1) L a w hc hi hall
    · simp only [Classical.not_forall] at hall
      obtain ⟨j, hj, hjn⟩ := hall
      have hjL : L[j]? = some false := by
        have hj' : j < L.size := by omega
        simp only [hj', Array.getElem?_eq_getElem] at hjn ⊢
        cases h4 : L[j] with
        | true => rw [h4] at hjn; exact absurd rfl hjn
        | false => rfl
      refine ⟨fun he => by
        obtain ⟨i, hi'⟩ := ready_ex hd hsz j hjL
        rw [he] at hi'; simp at hi', fun i hir => ?_⟩
      obtain ⟨hLi, hready⟩ := mem_ready hsz hir
      have hilt := (Array.getElem?_eq_some_iff.1 hLi).1
      have him : i < m := by
        rcases Nat.lt_or_ge i m with h3 | h3
        · exact h3
        · have : L[j]? = some true := by
            simp only [tailOk, List.all_eq_true, List.mem_range, Bool.or_eq_true] at ht
            rcases ht i (by omega) with h4 | h4
            · have : i < m := Nat.le_of_ble_eq_true h4
              omega
            · rcases h4 j (by omega) with h5 | h5
              · exact hready j h5
              · exact waitsT_done hi.down _ i j hready h5
          rw [hjL] at this; cases this
      have hcnt : (L.setIfInBounds i true).toList.countP (· == false) = f := by
        rw [Array.toList_setIfInBounds, List.countP_set (by simpa using hilt)]
        have h7 : L.toList[i]'(by simpa using hilt) = false := by
          have := (Array.getElem?_eq_some_iff.1 hLi).2
          simpa using this
        rw [h7, hc]; simp
      simp only [complete, List.all_eq_true, List.mem_range, Bool.or_eq_true] at hcomp
      rcases hcomp i him with (hv | hv) | hv
      · -- a quiet one
        cases hvi : vget V i with
        | none => simp [hvi] at hv
        | some v =>
          obtain ⟨k, hmem⟩ := vget_mem hvi
          have hqs : QSV F P S w0 n l ds σ V η i v := by
            rcases (hk i v k hmem).2 with e | e | e
            · subst e; exact h0 i v hmem η
            · subst e; exact h1 i v hmem
            · subst e; have := hi.done i v hmem; rw [hLi] at this; cases this
          obtain ⟨o, d, env, ho, hod, henv, hop⟩ := hqs
          have hdi : dstOf l i = some d := by simp [dstOf, ho, hod]
          obtain ⟨hrun, hfr⟩ := run_one (d := d) (QO := fun σ' => Fin S w0 n ds η ((d, v) :: σ')) hi hLi hready ho henv hop
          refine wpOpIn_monoQ (fun a' w' hx => ?_) (fun e a' w' hne hx => by cases e <;> first | exact absurd rfl hne | exact hx.elim) hrun
          obtain ⟨hk', hh'⟩ := (show Kn n ds ((d, v) :: (envs env ++ fullEnv a)) a' ∧ Hp S w0 η w' from hx)
          exact ih _ a' w' hcnt (hi.put hq him hLi hready (fun _ _ h => h) (fun _ _ _ h => h) hvi hdom hdi (fun j u hm => .inr (hi.done j u hm)) hk'.size hk'.defers (hfr v a' hk').1 (hfr v a' hk').2 hh')
      · -- a heavy one
        have hih : i ∈ hs := by
          obtain ⟨x, hx, he⟩ := List.any_eq_true.1 hv
          have : i = x := Nat.eq_of_beq_eq_true he
          rw [this]; exact hx
        obtain ⟨o, d, env, ho, hod, _, hnew, henv, hrd, hop⟩ := hbr i hih
        have hdi : dstOf l i = some d := by simp [dstOf, ho, hod]
        obtain ⟨hrun, hfr⟩ := run_one (d := d) (QO := fun σ' => QB F P S w0 n l ds σ Q m V i d σ') hi hLi hready ho henv hop
        refine wpOpIn_monoQ (fun a' w' hx => ?_) (fun e a' w' hne hx => by cases e <;> first | exact absurd rfl hne | exact hx) hrun
        obtain ⟨v, η', hk', hh', hdh⟩ := (show ∃ v η', Kn n ds ((d, v) :: (envs env ++ fullEnv a)) a' ∧ Hp S w0 η' w' ∧ DH F P S w0 n l ds σ Q m ((i, v, 2) :: execV V) η' from hx)
        have hext : ∀ j u, vget V j = some u → vget ((i, v, 2) :: execV V) j = some u := by
          intro j u hj
          rw [vget_cons, vget_exec]
          by_cases e : i = j
          · subst e; rw [hnew] at hj; cases hj
          · rw [if_neg e]; exact hj
        have hex : ∀ j u k, (j, u, k) ∈ execV V → ∃ k0, (j, u, k0) ∈ V ∧ ((k0 = 1 ∧ k = 2) ∨ (k0 ≠ 1 ∧ k = k0)) := by
          intro j u k hm
          obtain ⟨⟨j0, u0, k0⟩, hx0, he⟩ := List.mem_map.1 hm
          simp only [Prod.mk.injEq] at he
          obtain ⟨rfl, rfl, hke⟩ := he
          refine ⟨k0, hx0, ?_⟩
          by_cases e : k0 = 1
          · subst e; left; exact ⟨rfl, hke.symm⟩
          · right
            have : Nat.beq k0 1 = false := by
              cases hb : Nat.beq k0 1
              · rfl
              · exact absurd (Nat.eq_of_beq_eq_true hb) e
            rw [this] at hke; exact ⟨e, hke.symm⟩
        have hmapf : (execV V).map (·.1) = V.map (·.1) := by simp [execV, Function.comp_def]
        refine hdh ?_ ?_ ?_ ?_ f _ a' w' hcnt (hi.put hq him hLi hready hext ?_ (by rw [vget_cons, if_pos rfl]) hdom hdi ?_ hk'.size hk'.defers (hfr v a' hk').1 (hfr v a' hk').2 hh')
        · rw [List.map_cons, hmapf]
          refine List.nodup_cons.2 ⟨fun hm => ?_, hn⟩
          obtain ⟨⟨j0, u0, k0⟩, hx0, he⟩ := List.mem_map.1 hm
          simp only at he; subst he
          have := mem_vget hn hx0
          rw [hnew] at this; cases this
        · intro j u hm η2
          rcases List.mem_cons.1 hm with e | hm
          · cases e
          · obtain ⟨k0, hx0, h2 | h2⟩ := hex j u 0 hm
            · exact absurd h2.2 (by decide)
            · rw [← h2.2] at hx0; exact (h0 j u hx0 η2).ext hext
        · intro j u hm
          rcases List.mem_cons.1 hm with e | hm
          · cases e
          · obtain ⟨k0, hx0, h2 | h2⟩ := hex j u 1 hm
            · exact absurd h2.2 (by decide)
            · exact absurd h2.2.symm h2.1
        · intro j u k hm
          rcases List.mem_cons.1 hm with e | hm
          · cases e; exact ⟨him, .inr (.inr rfl)⟩
          · obtain ⟨k0, hx0, h2 | h2⟩ := hex j u k hm
            · exact ⟨(hk j u k0 hx0).1, .inr (.inr h2.2)⟩
            · rw [h2.2]; exact hk j u k0 hx0
        · intro j u hji hv2
          rw [vget_cons, if_neg (fun e => hji e.symm), vget_exec] at hv2; exact hv2
        · intro j u hm
          rcases List.mem_cons.1 hm with e | hm
          · cases e; exact .inl rfl
          · obtain ⟨k0, hx0, h2 | h2⟩ := hex j u 2 hm
            · right
              simp only [readersOk, List.all_eq_true] at hrd
              have h3 := hrd (j, u, k0) hx0
              simp only [h2.1, Bool.or_eq_true, Bool.not_eq_true'] at h3
              rcases h3 with h3 | h3 | h3
              · simp at h3
              · exact hready j h3
              · exact waitsT_done hi.down _ i j hready h3
            · right; rw [← h2.2] at hx0; exact hi.done j u hx0
      · -- it waits for what is not known
        exfalso
        simp only [List.any_eq_true, List.mem_range, Bool.and_eq_true, Bool.or_eq_true] at hv
        obtain ⟨j2, hj2, hnone, hw⟩ := hv
        have hLj : L[j2]? = some true := by
          rcases hw with h5 | h5
          · exact hready j2 h5
          · exact waitsT_done hi.down _ i j2 hready h5
        have := hi.dom j2 hLj
        cases hvv : vget V j2 with
        | none => simp [hvv] at this
        | some u => simp [hvv] at hnone
theorem DH.done (pre : Env) (tl : List Oper) (hd : dagOk l = true) (ht : tailOk l m = true) (hq : dstsOk l m = true) (hcomp : complete l m V [] = true) (hp : allEnvV l V σ = pre ++ σ) (hl : l.drop m = tl)
    (h : TL F P S w0 n l.toArray Q tl ds (pre ++ σ) η) : DH F P S w0 n l ds σ Q m V η := DH.node [] hd ht hq hcomp (by simp) (fun _ => by rw [hp, hl]; exact h)
theorem not_all {h : Nat} (hm : Nat.blt h m = true) (hv : vget V h = none) {X : Prop} (ha : ∀ i, i < m → (vget V i).isSome = true) : X := by
  have := ha h (Nat.le_of_ble_eq_true hm)
  rw [hv] at this; simp at this
/-- One heavy operation may come next. -/
theorem DH.heavy (h : Nat) (env : List (Nat × Value × Option Nat)) {o : Oper} {d : Nat} (hd : dagOk l = true) (ht : tailOk l m = true) (hq : dstsOk l m = true) (hcomp : complete l m V [h] = true) (ho : l[h]? = some o) (hod : o.dst = some d) (him : Nat.blt h m = true) (hnew : vget V h = none) (he : EnvOkV l σ V h env) (hrd : readersOk l V h = true)
    (hop : ∀ ext : Env, TL F P S w0 n l.toArray (QB F P S w0 n l ds σ Q m V h d (envs env ++ ext)) [o] ds (envs env ++ ext) η) : DH F P S w0 n l ds σ Q m V η :=
  DH.node [h] hd ht hq hcomp (fun h' hh => by
    have : h' = h := by simpa using hh
    subst this; exact ⟨o, d, env, ho, hod, him, hnew, he, hrd, hop⟩) (fun ha => not_all him hnew ha)
/-- Two heavy operations may come next. -/
theorem DH.heavy2 {h1 h2 : Nat} (hd : dagOk l = true) (ht : tailOk l m = true) (hq : dstsOk l m = true) (hcomp : complete l m V [h1, h2] = true) (b1 : HB F P S w0 n l ds σ Q m V η h1) (b2 : HB F P S w0 n l ds σ Q m V η h2) : DH F P S w0 n l ds σ Q m V η :=
  DH.node [h1, h2] hd ht hq hcomp (fun h' hh => by
    rcases List.mem_cons.1 hh with e | hh
    · subst e; exact b1
    · have : h' = h2 := by simpa using hh
      subst this; exact b2) (fun ha => by obtain ⟨_, _, _, _, _, him, hnew, _⟩ := b1; exact not_all him hnew ha)
theorem T.drawH (m : Nat) {id : Nat} (hm : P.follows .mixedOrders = true) (h : DH F P S w0 n l ds σ Q m [] η) : T F P S w0 n Q (.region id l.toArray true) ds σ η := fun a w hk hh => by
  refine wpIn_region_any hm ?_
  refine h (by simp) (by simp) (by simp) (by simp) _ _ a _ ?_ ?_
  · simp [List.countP_replicate]
  exact ⟨by simp, fun k hk => by simp [Array.getElem?_replicate] at hk, by simp, fun k j _ hk => by simp [Array.getElem?_replicate] at hk, hk.size, hk.defers, fun t v h1 _ => hk.slot t v h1, fun i v d hi => by simp [Array.getElem?_replicate] at hi, hh.drew _⟩
end
end Go.Sl
/- Owned slices that begin behind the start of their block. -/
namespace Go.Sl
/-- An owned slice, from some place of its block on. -/
def OSx (e : TypeId) (sz : Nat) (v : Value) (n : Nat) (xs : List Value) (seg : Seg) : Prop :=
  xs.length = n * sz ∧ ((v = .slice none 0 0 ∧ n = 0 ∧ seg = []) ∨
    ∃ g o cap cur, v = .slice (some ⟨g, o, none⟩) n cap ∧ seg = [(g, .cells cur e (0, 0))] ∧ n ≤ cap ∧ o + cap * sz ≤ cur.size ∧ (cur.toList.drop o).take (n * sz) = xs)
section
variable {P : Program} {S : Nat → Prop} {w0 w : World} {η : Heap}
theorem OSl.x {e : TypeId} {sz n : Nat} {v : Value} {xs : List Value} {seg : Seg} (h : OSl e sz v n xs seg) : OSx e sz v n xs seg := by
  refine ⟨h.1, ?_⟩
  rcases h.2 with h2 | ⟨g, cap, cur, hv, hs, hnc, hcs, ht⟩
  · exact .inl h2
  · exact .inr ⟨g, 0, cap, cur, hv, hs, hnc, by omega, by rw [List.drop_zero]; exact ht⟩
theorem OSx.nil (e : TypeId) (sz : Nat) : OSx e sz (.slice none 0 0) 0 [] [] := ⟨by simp, .inl ⟨rfl, rfl, rfl⟩⟩
theorem OSx.form {e : TypeId} {sz n : Nat} {v : Value} {xs : List Value} {seg : Seg} (h : OSx e sz v n xs seg) : ∃ a cap, v = .slice a n cap := by
  rcases h.2 with ⟨rfl, rfl, _⟩ | ⟨g, o, cap, cur, rfl, _⟩ <;> exact ⟨_, _, rfl⟩
theorem OSx.row {e : TypeId} {sz n : Nat} {a : Option Addr} {l cap : Nat} {xs : List Value} {seg : Seg} (h : OSx e sz (.slice a l cap) n xs seg) (hs : seg ∈ η) : Row S w0 η a xs := by
  rcases h.2 with ⟨hv, hn, _⟩ | ⟨g, o, cap', cur, hv, hsg, hnc, hcs, ht⟩
  · have hx : xs = [] := List.eq_nil_of_length_eq_zero (by have := h.1; rw [hn] at this; simpa using this)
    subst hx
    exact ⟨fun hl => by simp at hl, fun i v hi => by simp at hi⟩
  · simp only [Value.slice.injEq] at hv
    obtain ⟨rfl, _, _⟩ := hv
    refine ⟨fun _ => ⟨_, rfl, rfl⟩, fun i v hi => ?_⟩
    refine .own seg hs cur e (0, 0) (by rw [hsg]; simp [sAt]) ?_ rfl
    rw [← ht, List.getElem?_take] at hi
    split at hi
    · rw [List.getElem?_drop] at hi; simpa [sAt] using hi
    · cases hi
theorem OSx.cut {e : TypeId} {sz n k : Nat} {a : Option Addr} {cap : Nat} {xs : List Value} {seg : Seg} (h : OSx e sz (.slice a n cap) n xs seg) (hk : k ≤ n) : OSx e sz (.slice (if cap = k then a else a.map (·.add (k * sz))) (n - k) (cap - k)) (n - k) (xs.drop (k * sz)) seg := by
  have hlen : (xs.drop (k * sz)).length = (n - k) * sz := by rw [List.length_drop, h.1, Nat.sub_mul]
  refine ⟨hlen, ?_⟩
  rcases h.2 with ⟨hv, hn, hs⟩ | ⟨g, o, cap', cur, hv, hsg, hnc, hcs, ht⟩
  · simp only [Value.slice.injEq] at hv
    obtain ⟨rfl, _, rfl⟩ := hv
    subst hn
    have : k = 0 := by omega
    subst this
    exact .inl ⟨by simp, rfl, hs⟩
  · simp only [Value.slice.injEq] at hv
    obtain ⟨rfl, _, rfl⟩ := hv
    right
    by_cases hck : cap = k
    · refine ⟨g, o, 0, cur, by rw [if_pos hck, hck]; simp, hsg, by omega, by omega, ?_⟩
      have : n - k = 0 := by omega
      have hl2 : xs.length ≤ k * sz := by rw [h.1]; exact Nat.mul_le_mul_right _ (by omega)
      rw [this, List.drop_of_length_le hl2]; simp
    · have hadd : (⟨g, o, none⟩ : Addr).add (k * sz) = ⟨g, o + k * sz, none⟩ := by
        unfold Addr.add; split
        · rename_i h0; simp [h0]
        · rfl
      have hmul : cap * sz = k * sz + (cap - k) * sz := by rw [← Nat.add_mul]; congr 1; omega
      refine ⟨g, o + k * sz, cap - k, cur, by rw [if_neg hck]; simp [hadd], hsg, by omega, by omega, ?_⟩
      rw [← ht, ← List.drop_drop, List.drop_take, ← Nat.sub_mul]
theorem run_appendX {t ty e : TypeId} [Und P t (.slice e)] {z : Value} {sz bt : Nat} [Inf P e z sz bt] (hz : z.cells.size = sz) {i n m : Nat} {v x : Value} {xs news : List Value} {seg : Seg} (hh : Hp S w0 η w) (hi : η[i]? = some seg)
    (ho : OSx e sz v n xs seg) (hs : Src S w0 η x m news) (hl : news.length = m * sz) (h1 : ∀ u ∈ news, u.oneCell' = true) (hb : (n + m) * bt ≤ 140737488355328) (hsm : n + m ≤ 4611686018427387904) :
    ∃ v' w' seg', (Builtin.append_ #[t, t] ty #[v, x]).run P w = .ok v' w' ∧ Hp S w0 (η.set i seg') w' ∧ OSx e sz v' (n + m) (xs ++ news) seg' := by
  obtain ⟨a, c, rfl, hr⟩ := hs
  have hfc := run_firstCells (P := P) (c := c) hr hl hh
  have hlen : (xs ++ news).length = (n + m) * sz := by rw [List.length_append, ho.1, hl, Nat.add_mul]
  obtain ⟨inf, hinf, hiz, hisz, hibt⟩ := run_typeInfo (P := P) (t := e) (z := z) (sz := sz) (bt := bt)
  have grow : ∀ (base : Option Addr) (cap : Nat), v = .slice base n cap → cap < n + m → (Builtin.firstCells sz n v).run P w.drew = .ok xs.toArray w.drew →
      ∃ v' w' seg', (Builtin.append_ #[t, t] ty #[v, .slice a m c]).run P w = .ok v' w' ∧ Hp S w0 (η.set i seg') w' ∧ OSx e sz v' (n + m) (xs ++ news) seg' := by
    intro base cap hv hlt hold
    subst hv
    have hfc' : (Builtin.firstCells sz m (.slice a m c)).run P w.drew = .ok news.toArray w.drew := run_firstCells (P := P) (c := c) hr hl (hh.drew (w.drawn + 1))
    have hg := growslice_fits (old := cap) (bytes := bt) hlt hb
    have hq : (Question.appendCap (n + m) cap e).forced = false := rfl
    have hcut : ∃ k, (Question.appendCap (n + m) cap e).cut (w.tape w.drawn (.appendCap (n + m) cap e)) = n + m + k := ⟨_, rfl⟩
    obtain ⟨k, hk⟩ := hcut
    refine ⟨.slice (some ⟨w.heap.size, 0, none⟩) (n + m) (n + m + k), w.drew.alloc (.cells (xs.toArray ++ news.toArray ++ Builtin.zeroCells z.cells k) e (0, 0)), [(w.heap.size, .cells (xs.toArray ++ news.toArray ++ Builtin.zeroCells z.cells k) e (0, 0))], ?_, (hh.drew (w.drawn + 1)).freshI hi _, hlen, .inr ⟨_, 0, _, _, rfl, rfl, by omega, ?_, ?_⟩⟩
    · have h3 : ¬ (n + m ≤ cap) := by omega
      simp only [Builtin.append_]
      simp [run_underlying (t := t) (d := .slice e), run_sizeOf (t := e) (z := z) (sz := sz) (bt := bt), Builtin.lenOf, h3, hinf, hibt, hq, hk, hold, hfc', run_zeroValue (t := e) (z := z) (sz := sz) (bt := bt), newRow]
      rw [if_neg (by omega), if_neg (by omega)]
      simp
      congr 2
      rw [← Array.append_assoc]
      simp
    · exact Nat.le_of_eq (by simp [Builtin.zeroCells, ho.1, hl, hz, Nat.add_mul])
    · rw [List.drop_zero]
      simp only [Array.toList_append, List.append_assoc]
      rw [← List.append_assoc, ← hlen]
      exact List.take_left
  rcases ho.2 with ⟨rfl, rfl, rfl⟩ | ⟨g, o, cap, cur, rfl, rfl, hnc, hcs, htk⟩
  · have hx : xs = [] := List.eq_nil_of_length_eq_zero (by simpa using ho.1)
    subst hx
    by_cases hm : m = 0
    · subst hm
      have hn : news = [] := List.eq_nil_of_length_eq_zero (by simpa using hl)
      subst hn
      refine ⟨.slice none 0 0, w, [], ?_, ?_, OSx.nil e sz⟩
      · simp [Builtin.append_, run_underlying (t := t) (d := .slice e), run_sizeOf (t := e) (z := z) (sz := sz) (bt := bt), Builtin.lenOf, hfc]
      · obtain ⟨pre, post, he, hse⟩ := flatten_set_sub (s' := ([] : Seg)) hi
        rw [hse, ← he]; exact hh
    · exact grow none 0 rfl (by omega) (by simp [Builtin.firstCells])
  · by_cases hroom : n + m ≤ cap
    · have hg := (hh.own (g, .cells cur e (0, 0)) (List.mem_flatten.2 ⟨_, List.mem_of_getElem? hi, by simp⟩)).1
      have hmul : (n + m) * sz ≤ cap * sz := Nat.mul_le_mul_right _ hroom
      have hfit : o + n * sz + news.length ≤ cur.size := by rw [hl]; rw [Nat.add_mul] at hmul; omega
      refine ⟨_, _, [(g, .cells ((cur.toList.take (o + n * sz) ++ news ++ cur.toList.drop (o + n * sz + news.length)).toArray) e (0, 0))], ?_, hh.turnI hi _, hlen, .inr ⟨g, o, cap, _, rfl, rfl, hroom, ?_, ?_⟩⟩
      · have hadd : (⟨g, o, none⟩ : Addr).add (n * sz) = ⟨g, o + n * sz, none⟩ := by
          unfold Addr.add; split
          · rename_i h0; simp [h0]
          · rfl
        have hst := run_storeCells (P := P) (e := e) (b := g) news cur (o + n * sz) 0 w hg (by simpa using hfit) h1
        simp only [Nat.add_zero] at hst
        rw [foldl_set _ _ _ hfit] at hst
        simp [Builtin.append_, run_underlying (t := t) (d := .slice e), run_sizeOf (t := e) (z := z) (sz := sz) (bt := bt), Builtin.lenOf, hroom, hfc, hadd, hst]
      · simp only [List.size_toArray, List.length_append, List.length_take, List.length_drop, Array.length_toList]
        omega
      · have hol : o ≤ (cur.toList.take (o + n * sz)).length := by simp; omega
        have e1 : (cur.toList.take (o + n * sz)).drop o = xs := by
          rw [← htk, List.drop_take]; congr 1; omega
        show ((cur.toList.take (o + n * sz) ++ news ++ cur.toList.drop (o + n * sz + news.length)).drop o).take ((n + m) * sz) = xs ++ news
        rw [List.append_assoc, List.drop_append_of_le_length hol, e1, ← List.append_assoc, ← hlen]
        exact List.take_left
    · refine grow (some ⟨g, o, none⟩) cap rfl (by omega) ?_
      have hrow : Row S w0 η (some ⟨g, o, none⟩) xs := ho.row (List.mem_of_getElem? hi)
      exact run_firstCells hrow ho.1 (hh.drew _)

end
section
variable {F : Fence} {P : Program} {S : Nat → Prop} {w0 : World} {n : Nat} {Q : Exit → Act → World → Prop} {ds : List Deferred} {σ : Env} {η : Heap} {ops : Array Oper} {rest : List Oper} {d : Nat} {ty : TypeId} {pos : String} {af : Array Edge}
/-- append, of such a slice that is owned at place i. -/
theorem TL.appendX (hF : Open F) (i : Nat) {t e : TypeId} [Und P t (.slice e)] {z : Value} {sz bt : Nat} [Inf P e z sz bt] {x y : Operand} {k m : Nat} {v u : Value} {xs news : List Value} {seg : Seg} (hx : ev σ x = some v) (hy : ev σ y = some u)
    (hi : η[i]? = some seg) (ho : OSx e sz v k xs seg) (hs : Src S w0 η u m news) (hz : z.cells.size = sz) (hl : news.length = m * sz) (h1 : ∀ u ∈ news, u.oneCell' = true) (hb : (k + m) * bt ≤ 140737488355328) (hsm : k + m ≤ 4611686018427387904) (hn : Nat.blt d n = true)
    (h : ∀ a cap seg', OSx e sz (.slice a (k + m) cap) (k + m) (xs ++ news) seg' → TL F P S w0 n ops Q rest ds ((d, .slice a (k + m) cap) :: σ) (η.set i seg')) :
    TL F P S w0 n ops Q (⟨some d, .call ⟨.builtin .append, #[x, y], #[t, t]⟩, ty, pos, af, none⟩ :: rest) ds σ η :=
  TL.val hF (by intro c; simp) hn fun a w hk hh => by
    obtain ⟨v', w', seg', hr, hh', ho'⟩ := run_appendX (P := P) (t := t) (ty := ty) (e := e) (z := z) (sz := sz) (bt := bt) hz hh hi ho hs hl h1 hb hsm
    obtain ⟨a', cap, rfl⟩ := ho'.form
    exact ⟨_, w', _, by simp [execOp, resolve, Go.invoke, Go.builtin, hk.ev hx, hk.ev hy, hr], hh', h _ _ _ ho'⟩
end
end Go.Sl
/- Blocks that are from now on only read; what arguments hold; the frame of a law. -/
namespace Go.Sl
section
variable {F : Fence} {P : Program} {S : Nat → Prop} {w0 w : World} {n : Nat} {Q : Exit → Act → World → Prop} {ds : List Deferred} {σ : Env} {η : Heap} {ops : Array Oper}
/-- From one view of memory to the next one, in which some owned blocks are only read. -/
structure Frz (S S' : Nat → Prop) (w0 w1 : World) (ηr : Heap) : Prop where
  back : ∀ η' w', Hp S' w1 η' w' → Hp S w0 (ηr ++ η') w'
  get : ∀ a v, At S w0 ηr a v → At S' w1 [] a v

theorem frz_mk {ηr : Heap} (hh : Hp S w0 (ηr ++ η) w) : Frz S (fun k => S k ∨ k ∈ ηr.flatten.map (·.1)) w0 w ηr ∧ Hp (fun k => S k ∨ k ∈ ηr.flatten.map (·.1)) w η w := by
  have hon := hh.once
  rw [List.flatten_append, List.map_append, List.nodup_append] at hon
  obtain ⟨n1, n2, n3⟩ := hon
  refine ⟨⟨fun η' w' h => ?_, fun a v h => ?_⟩, ?_⟩
  · refine ⟨h.os.trans hh.os, h.tape.trans hh.tape, h.output.trans hh.output, Nat.le_trans hh.size h.size, fun k hk => ⟨(hh.same k hk).1, ((h.same k (.inl hk)).2).trans (hh.same k hk).2⟩, fun p hp => ?_, ?_⟩
    · rw [List.flatten_append, List.mem_append] at hp
      rcases hp with hp | hp
      · have h1 := hh.own p (by rw [List.flatten_append, List.mem_append]; exact .inl hp)
        exact ⟨((h.same p.1 (.inr (List.mem_map.2 ⟨p, hp, rfl⟩))).2).trans h1.1, h1.2⟩
      · have h1 := h.own p hp
        exact ⟨h1.1, fun hs => h1.2 (.inl hs)⟩
    · rw [List.flatten_append, List.map_append, List.nodup_append]
      refine ⟨n1, h.once, fun a ha b hb hab => ?_⟩
      subst hab
      obtain ⟨p, hp, rfl⟩ := List.mem_map.1 hb
      exact (h.own p hp).2 (.inr ha)
  · cases h with
    | rd h hc =>
      refine .rd (.inl h) ?_
      have := (hh.same _ h).2
      simp only [World.cell?, this] at hc ⊢
      exact hc
    | own seg hs cs e fz hp hc hsp =>
      have hm : (a.block, Obj.cells cs e fz) ∈ ηr.flatten := List.mem_flatten.2 ⟨seg, hs, hp⟩
      have h1 := (hh.own _ (by rw [List.flatten_append, List.mem_append]; exact .inl hm)).1
      refine .rd (.inr (List.mem_map.2 ⟨_, hm, rfl⟩)) ?_
      simp only at h1
      simp [World.cell?, h1, hsp, hc]
  · refine ⟨rfl, rfl, rfl, Nat.le_refl _, fun k hk => ⟨?_, rfl⟩, fun p hp => ⟨(hh.own p (by rw [List.flatten_append, List.mem_append]; exact .inr hp)).1, ?_⟩, n2⟩
    · rcases hk with hk | hk
      · exact Nat.lt_of_lt_of_le (hh.same k hk).1 hh.size
      · obtain ⟨p, hp, rfl⟩ := List.mem_map.1 hk
        exact hh.lt (by rw [List.flatten_append, List.mem_append]; exact .inl hp)
    · rintro (hs | hs)
      · exact (hh.own p (by rw [List.flatten_append, List.mem_append]; exact .inr hp)).2 hs
      · exact n3 _ hs _ (List.mem_map.2 ⟨p, hp, rfl⟩) rfl
/-- From here on the blocks of ηr are only read. -/
theorem T.freeze {c : Code} (ηr : Heap) {η2 : Heap} (he : η = ηr ++ η2) (h : ∀ S' w1, Frz S S' w0 w1 ηr → T F P S' w1 n Q c ds σ η2) : T F P S w0 n Q c ds σ η := fun a w hk hh => by
  subst he
  obtain ⟨hz, h2⟩ := frz_mk hh
  exact h _ _ hz a w hk h2
theorem TL.freeze {l : List Oper} (ηr : Heap) {η2 : Heap} (he : η = ηr ++ η2) (h : ∀ S' w1, Frz S S' w0 w1 ηr → TL F P S' w1 n ops Q l ds σ η2) : TL F P S w0 n ops Q l ds σ η := fun a w hk hh => by
  subst he
  obtain ⟨hz, h2⟩ := frz_mk hh
  exact h _ _ hz a w hk h2
theorem Frz.old {S' : Nat → Prop} {w1 : World} {ηr : Heap} (hz : Frz S S' w0 w1 ηr) {a : Addr} {v : Value} (h : At S w0 [] a v) : At S' w1 [] a v := hz.get a v (h.up (by simp))
theorem Row.frz {S' : Nat → Prop} {w1 : World} {ηr : Heap} {a : Option Addr} {cs : List Value} (h : Row S w0 ηr a cs) (hz : Frz S S' w0 w1 ηr) : Row S' w1 [] a cs := ⟨h.ad, fun i v hi => hz.get _ _ (h.cell i v hi)⟩
theorem Row.old {S' : Nat → Prop} {w1 : World} {ηr : Heap} {a : Option Addr} {cs : List Value} (h : Row S w0 [] a cs) (hz : Frz S S' w0 w1 ηr) : Row S' w1 [] a cs := ⟨h.ad, fun i v hi => hz.old (h.cell i v hi)⟩
/-- The view at the start of a function, and how one comes back to it. -/
def Back (S S' : Nat → Prop) (w0 w1 : World) : Prop := ∀ η' w', Hp S' w1 η' w' → ∃ η2, Hp S w0 η2 w'
theorem Back.refl (S : Nat → Prop) (w0 : World) : Back S S w0 w0 := fun η' _ h => ⟨η', h⟩
theorem Back.frz {S' S2 : Nat → Prop} {w1 w2 : World} {ηr : Heap} (h : Back S S' w0 w1) (hz : Frz S' S2 w1 w2 ηr) : Back S S2 w0 w2 := fun _ _ h2 => h _ _ (hz.back _ _ h2)
/-- The end of a function whose result says nothing of memory. -/
theorem TQ.retsF {fn : Func} {S' : Nat → Prop} {w1 : World} (ts : List Nat) (vs : List Value) {v : Value} {R : Value → Heap → Prop} (hb : Back S S' w0 w1) (hr : fn.results = (ts.map ResultVar.tmp).toArray) (hv : lks σ ts = some vs) (he : retVal vs = v) (hR : ∀ η, R v η) :
    TQ S' w1 n (bodyPost P fn (post R S w0) .ret) [] σ η := fun a w hk hh => by
  obtain ⟨η2, h2⟩ := hb _ _ hh
  refine ⟨hk.defers, v, ?_, v, η2, rfl, h2, hR _⟩
  rw [results_run hr hk (lks_map hv), retVal_eq, he]
theorem TQ.retLF {fn : Func} {S' : Nat → Prop} {w1 : World} (ts : List Nat) (vs : List Value) {v : Value} {R : Value → Heap → Prop} (hb : Back S S' w0 w1) (hr : fn.results = (ts.map ResultVar.tmp).toArray) (hv : lks σ ts = some vs) (he : retVal vs = v) (hR : ∀ η, R v η) :
    TQ S' w1 n (bodyPostL P fn (post R S w0) .ret) [] σ η := fun a w hk hh => by
  show Lv P fn a.tmps (post R S w0) a.defers .returning w
  rw [hk.defers]
  obtain ⟨η2, h2⟩ := hb _ _ hh
  exact ⟨v, by rw [results_run hr hk (lks_map hv), retVal_eq, he], v, η2, rfl, h2, hR _⟩
end

/-! What arguments hold -/
section
open Go.ChangeShapes Go.WideShapes Go.Deep Go.RowKit
variable {H : Type} {enc : TypeId × Value → H} {P : Program} {W : World}
abbrev Old (W : World) : Nat → Prop := (· < W.heap.size)
theorem cell_lt {a : Addr} {v : Value} (h : W.cell? a = some v) : a.block < W.heap.size ∧ a.spot = none := by
  unfold World.cell? at h
  split at h
  · rename_i c e fz hb
    refine ⟨(Array.getElem?_eq_some_iff.1 hb).1, ?_⟩
    cases hs : a.spot with
    | none => rfl
    | some x => simp [hs] at h
  · cases h
theorem add_spot (a : Addr) (i : Nat) : (a.add i).spot = none → a.spot = none ∨ 0 < i := by
  intro h
  unfold Addr.add at h
  split at h
  · exact .inl h
  · rename_i hi; exact .inr (by omega)
/-- A slice that is read: its cells, and what each element reads as. -/
theorem slice_read {t e : TypeId} (ht : P.underlying t = some (.slice e)) (hc : 0 < P.cellsOf e) {fuel : Nat} {v : Value} {x : DataW H × List MemPlace} (h : DataW.trod enc P W 0 (fun _ => true) true fuel t [v] = some x) :
    ∃ (a : Option Addr) (len cap n : Nat) (cs : List Value), v = .slice a len cap ∧ len ≤ cap ∧ cap ≤ maxLen ∧ cs.length = len * P.cellsOf e ∧ Row (Old W) W [] a cs ∧
      ∀ i, i < len → ∃ y, DataW.trod enc P W 0 (fun _ => true) true n e ((cs.drop (i * P.cellsOf e)).take (P.cellsOf e)) = some y := by
  rcases open_slice ht h with ⟨hv, _⟩ | ⟨a, len, cap, m, n, D, Pl, hcs, _, hl, hm, hmm, _, hi⟩
  · have : v = .slice none 0 0 := by simpa using hv
    subst this
    exact ⟨none, 0, 0, 0, [], rfl, Nat.le_refl _, Nat.zero_le _, by simp, ⟨fun h => by simp at h, fun i v h => by simp at h⟩, fun i hi => by omega⟩
  · have : v = .slice (some a) len cap := by simpa using hcs
    subst this
    simp only [if_true] at hmm
    have hx : ∀ i, i < len → ∃ cs', W.cells? 0 (a.add (i * P.cellsOf e)) (P.cellsOf e) = some cs' ∧ DataW.trod enc P W 0 (fun _ => true) true n e cs' = some (D i, Pl i) := fun i h => hi i (by omega)
    obtain ⟨C, hC⟩ := choose_lt (α := List Value) hx
    have hlen : ∀ i, i < len → (C i).length = P.cellsOf e := fun i h => (World.cells?_some (hC i h).1).2.1
    have hcell : ∀ i j, i < len → j < P.cellsOf e → W.cell? (a.add (i * P.cellsOf e + j)) = (C i)[j]? := fun i j h1 h2 => by
      have := (World.cells?_some (hC i h1).1).2.2 j h2
      rwa [Go.Deep.add_add] at this
    let f : Nat → List Value := fun i => if i < len then C i else List.replicate (P.cellsOf e) undef
    have hf : ∀ i, (f i).length = P.cellsOf e := fun i => by
      simp only [f]; split
      · exact hlen i (by assumption)
      · simp
    have hget : ∀ i j, i < len → j < P.cellsOf e → ((List.range len).flatMap f)[i * P.cellsOf e + j]? = (C i)[j]? := fun i j h1 h2 => by
      rw [flat_get _ f hf _ i j h2]
      simp [h1, f]
    have htot : ((List.range len).flatMap f).length = len * P.cellsOf e := by
      rw [List.length_flatMap]
      have : (List.range len).map (fun i => (f i).length) = List.replicate len (P.cellsOf e) := by
        apply List.ext_getElem
        · simp
        · intro i h1 h2; simp [hf]
      rw [this, List.sum_replicate_nat]
    have hsp : 0 < len → a.spot = none ∧ a.block < W.heap.size := fun h0 => by
      have h1 := hcell 0 0 h0 hc
      have h2 : (C 0)[0]? = some ((C 0)[0]'(by rw [hlen 0 h0]; exact hc)) := List.getElem?_eq_getElem _
      rw [h2] at h1
      have h3 := cell_lt h1
      simpa [Addr.add] using h3.symm
    have hadd : a.spot = none → ∀ k, a.add k = sAt (some a) k := fun hs k => by
      obtain ⟨b, o, s⟩ := a
      simp only at hs; subst hs
      unfold Addr.add sAt; split
      · rename_i h; simp [h]
      · rfl
    refine ⟨some a, len, cap, n, (List.range len).flatMap f, rfl, hl, hm, htot, ⟨fun h0 => ?_, fun k v hk => ?_⟩, fun i hil => ⟨(D i, Pl i), ?_⟩⟩
    · rw [htot] at h0
      exact ⟨a, rfl, (hsp (Nat.pos_of_mul_pos_right h0)).1⟩
    · have hkl := (List.getElem?_eq_some_iff.1 hk).1
      rw [htot] at hkl
      have h1 : k / P.cellsOf e < len := by rw [Nat.div_lt_iff_lt_mul hc]; exact hkl
      have h2 : k % P.cellsOf e < P.cellsOf e := Nat.mod_lt _ hc
      have h3 : k / P.cellsOf e * P.cellsOf e + k % P.cellsOf e = k := Nat.div_add_mod' k (P.cellsOf e)
      have h4 := hget _ _ h1 h2
      rw [h3, hk] at h4
      have h5 := hcell _ _ h1 h2
      rw [h3, ← h4] at h5
      obtain ⟨hs, hbl⟩ := hsp (Nat.lt_of_le_of_lt (Nat.zero_le _) h1)
      rw [hadd hs] at h5
      exact .rd hbl h5
    · have e1 : (((List.range len).flatMap f).drop (i * P.cellsOf e)).take (P.cellsOf e) = C i := by
        apply List.ext_getElem?
        intro j
        rw [List.getElem?_take]
        by_cases hj : j < P.cellsOf e
        · rw [if_pos hj, List.getElem?_drop, hget i j hil hj]
        · rw [if_neg hj, List.getElem?_eq_none (by rw [hlen i hil]; omega)]
      rw [e1]; exact (hC i hil).2
/-- A slice of integers. -/
theorem ints_read {t e : TypeId} {k : IntKind} (ht : P.underlying t = some (.slice e)) (he : P.underlying e = some (.int k)) (hc : P.cellsOf e = 1) {fuel : Nat} {v : Value} {x : DataW H × List MemPlace} (h : DataW.trod enc P W 0 (fun _ => true) true fuel t [v] = some x) :
    ∃ (a : Option Addr) (xs : List Int) (cap : Nat), v = .slice a xs.length cap ∧ xs.length ≤ maxLen ∧ Row (Old W) W [] a (xs.map (Value.int k)) ∧ ∀ i ∈ xs, (Lit.int k i).wf = true := by
  obtain ⟨a, len, cap, n, cs, rfl, hl, hm, hlen, hrow, hel⟩ := slice_read ht (by omega) h
  rw [hc] at hlen hel
  rw [Nat.mul_one] at hlen
  have hx : ∀ i, i < len → ∃ z : Int, cs[i]? = some (.int k z) ∧ (Lit.int k z).wf = true := fun i hi => by
    obtain ⟨y, hy⟩ := hel i hi
    obtain ⟨z, h1, _, h3⟩ := DataW.trod_int he hy
    refine ⟨z, ?_, h3⟩
    have : ((cs.drop (i * 1)).take 1)[0]? = some (.int k z) := by rw [h1]; rfl
    simpa using this
  obtain ⟨f, hf⟩ := choose_lt (α := Int) hx
  have e : cs = ((List.range len).map f).map (Value.int k) := by
    apply List.ext_getElem?
    intro i
    by_cases hi : i < len
    · rw [(hf i hi).1]; simp [hi]
    · rw [List.getElem?_eq_none (by omega)]; simp [hi]
  refine ⟨a, (List.range len).map f, cap, by simp, by simp; omega, by rw [← e]; exact hrow, fun z hz => ?_⟩
  obtain ⟨i, hi, rfl⟩ := List.mem_map.1 hz
  exact (hf i (by simpa using hi)).2
theorem wf_i64 {z : Int} (h : (Lit.int .i64 z).wf = true) : -9223372036854775808 ≤ z ∧ z ≤ 9223372036854775807 := by
  simp only [Lit.wf, Bool.and_eq_true, decide_eq_true_eq] at h; exact h
theorem wf_u16 {z : Int} (h : (Lit.int .u16 z).wf = true) : 0 ≤ z ∧ z ≤ 65535 := by
  simp only [Lit.wf, Bool.and_eq_true, decide_eq_true_eq] at h; exact h
theorem wf_u8 {z : Int} (h : (Lit.int .u8 z).wf = true) : 0 ≤ z ∧ z ≤ 255 := by
  simp only [Lit.wf, Bool.and_eq_true, decide_eq_true_eq] at h; exact h
theorem wf_u64 {z : Int} (h : (Lit.int .u64 z).wf = true) : 0 ≤ z ∧ z ≤ 18446744073709551615 := by
  simp only [Lit.wf, Bool.and_eq_true, decide_eq_true_eq] at h; exact h
theorem wf_u32 {z : Int} (h : (Lit.int .u32 z).wf = true) : 0 ≤ z ∧ z ≤ 4294967295 := by
  simp only [Lit.wf, Bool.and_eq_true, decide_eq_true_eq] at h; exact h

/-- A struct that is read: what its fields read as. -/
theorem struct_read {t : TypeId} {l : List (TypeId × Nat)} (hs : (match P.underlying t with | some (.struct fs) => some (fs.toList.map fun f => (f.type, f.offset)) | _ => none) = some l) {fuel : Nat} {cs : List Value} {x : DataW H × List MemPlace} (h : DataW.trod enc P W 0 (fun _ => true) true fuel t cs = some x) :
    ∃ n : Nat, cs.length = P.cellsOf t ∧ ∀ (i : Nat) (ty : TypeId) (off : Nat), l[i]? = some (ty, off) → ∃ y, DataW.trod enc P W 0 (fun _ => true) true n ty ((cs.drop off).take (P.cellsOf ty)) = some y := by
  cases hu : P.underlying t with
  | none => rw [hu] at hs; cases hs
  | some d =>
    cases d with
    | struct fs =>
      rw [hu] at hs
      simp only [Option.some.injEq] at hs
      subst hs
      obtain ⟨xs, n, _, _, hl, hxl, hf⟩ := DataW.trod_struct hu h
      refine ⟨n, hl, fun i ty off hi => ?_⟩
      rw [List.getElem?_map] at hi
      cases hfi : fs.toList[i]? with
      | none => rw [hfi] at hi; cases hi
      | some f =>
        rw [hfi] at hi
        simp only [Option.map_some, Option.some.injEq, Prod.mk.injEq] at hi
        obtain ⟨rfl, rfl⟩ := hi
        have hfi2 : fs[i]? = some f := by simpa using hfi
        have hil : i < xs.length := by rw [hxl]; exact (Array.getElem?_eq_some_iff.1 hfi2).1
        exact ⟨xs[i], by rw [hf i f hfi2]; exact List.getElem?_eq_getElem hil⟩
    | _ => rw [hu] at hs; cases hs
/-- The cells of a slice, element by element. -/
theorem list_read {α : Type} {c : Nat} {Q : α → Prop} (f : α → List Value) : ∀ {len : Nat} {cs : List Value}, cs.length = len * c → (∀ i, i < len → ∃ x, (cs.drop (i * c)).take c = f x ∧ Q x) → ∃ l : List α, l.length = len ∧ cs = l.flatMap f ∧ ∀ x ∈ l, Q x
  | 0, cs, hl, _ => ⟨[], rfl, by simpa using hl, by simp⟩
  | len + 1, cs, hl, h => by
    obtain ⟨x, hx, hq⟩ := h 0 (by omega)
    rw [Nat.add_mul, Nat.one_mul] at hl
    obtain ⟨l, h1, h2, h3⟩ := list_read (c := c) (Q := Q) (len := len) (cs := cs.drop c) f (by rw [List.length_drop]; omega) (fun i hi => by
      obtain ⟨y, hy, hqy⟩ := h (i + 1) (by omega)
      refine ⟨y, ?_, hqy⟩
      rw [List.drop_drop, ← hy, Nat.add_mul, Nat.one_mul, Nat.add_comm])
    refine ⟨x :: l, by simp [h1], ?_, fun y hy => ?_⟩
    · rw [List.flatMap_cons, ← h2, ← hx]
      simp
    · rcases List.mem_cons.1 hy with rfl | hy
      · exact hq
      · exact h3 y hy
theorem slice_form {t e : TypeId} (ht : P.underlying t = some (.slice e)) {fuel : Nat} {cs : List Value} {x : DataW H × List MemPlace} (h : DataW.trod enc P W 0 (fun _ => true) true fuel t cs = some x) : ∃ a l c, cs = [.slice a l c] := by
  rcases open_slice ht h with ⟨hv, _⟩ | ⟨a, len, cap, m, n, D, Pl, hcs, _⟩
  · exact ⟨_, _, _, hv⟩
  · exact ⟨_, _, _, hcs⟩

/-! The frame of a law: it answers true, and of what was there nothing has turned. -/
theorem calls_true {f : FuncId} {args : Array Value} (h : Rt P f args (Old W) W [] fun v _ => v = .bool true) : Calls P f args W fun e W' => e = .returned (.bool true) ∧ Below W.heap.size W W' :=
  (h W (Hp.start W)).mono fun _ _ ⟨v, _, h1, h2, h3⟩ => ⟨by rw [h1, h3], h2.below⟩
theorem trodAll_below (hl : laidOutB P = true) {W' : World} (hb : Below W.heap.size W W') : ∀ {ts : List TypeId} {vs : List Value} {ds : List (DataW H)} {ps : List MemPlace}, (∀ t ∈ ts, P.readableRec t = true ∧ t < P.types.size) → (∀ x ∈ ps, x.block < W.heap.size) →
    DataW.TrodAll enc P W 0 (fun _ => true) true ts vs ds ps → DataW.TrodAll enc P W' 0 (fun b => decide (b < W.heap.size)) true ts vs ds ps
  | [], vs, ds, ps, _, _, h => by
    obtain ⟨rfl, rfl, rfl⟩ := trodAll_nil h
    exact h
  | t :: ts, vs, ds, ps, hr, hlt, h => by
    obtain ⟨v, vs', d, ds', p, q, rfl, rfl, rfl, h1, h2⟩ := trodAll_cons h
    have ht := hr t List.mem_cons_self
    exact ⟨p, q, Below.trod hl ht.1 ht.2 h1 hb (fun x hx => hlt x (by simp [hx])), trodAll_below hl hb (fun t h => hr t (List.mem_cons_of_mem _ h)) (fun x hx => hlt x (by simp [hx])) h2, rfl⟩
theorem law_post {f : Func} {s : ChangeSpec} (hl : laidOutB P = true) (hv : s.vars = []) (bt : TypeId) (hrt : f.resultTypes = #[bt]) (hbt : P.underlying bt = some .bool) {W' : World} {args : Array Value} {ds gs : List (DataW H)} {before : List MemPlace}
    (hW : DataW.Whole enc P f.params.toList s.vars false W args.toList ds gs before) (hfn : s.fn H ds = { results := [.lit (.bool true)], args := ds }) (hr : ∀ t ∈ f.params.toList, P.readableRec t = true ∧ t < P.types.size) (hb : Below W.heap.size W W') :
    s.post enc P f false true false false W args (.bool true) W' := by
  have hlt := fun p hp => hW.lt p hp
  have hW2 := hW
  obtain ⟨p, q, h1, h2, rfl, _, _⟩ := hW
  rw [hv] at h2
  obtain ⟨rfl, rfl⟩ := trodVars_none h2
  have e : s.fn H (ds ++ []) = { results := [.lit (.bool true)], args := ds } := by rw [List.append_nil]; exact hfn
  refine ⟨ds, [], _, [], p, [], hW2, ?_, ?_, ?_, hb.frame _, fun h => by cases h⟩
  · rw [e, hrt]
    exact trodAll_mk1 (shut_bool hbt true)
  · rw [e]
    exact trodAll_below hl hb hr (fun x hx => hlt x (by simp [hx])) h1
  · rw [e, hv]; rfl
end
end Go.Sl
/- Some of the owned blocks, in whatever order; three operations that may come next; ends of a part. -/
namespace Go.Sl
section
variable {F : Fence} {P : Program} {S : Nat → Prop} {w0 w : World} {n : Nat} {Q : Exit → Act → World → Prop} {ds : List Deferred} {σ : Env} {η : Heap} {ops : Array Oper}
def distinctN : List Nat → Bool
  | [] => true
  | x :: r => r.all (fun y => !Nat.beq x y) && distinctN r
def pickOk (idx : List Nat) (m : Nat) : Bool := distinctN idx && idx.all fun i => Nat.blt i m
def pickL (idx : List Nat) (pre : Heap) : Heap := idx.map fun i => pre.getD i []
theorem distinctN_spec : ∀ {l : List Nat}, distinctN l = true → l.Pairwise (· ≠ ·)
  | [], _ => List.Pairwise.nil
  | x :: r, h => by
    simp only [distinctN, Bool.and_eq_true, List.all_eq_true] at h
    refine List.pairwise_cons.2 ⟨fun y hy e => ?_, distinctN_spec h.2⟩
    have := h.1 y hy
    rw [e] at this; simp at this
theorem Hp.pick {pre tail : Heap} (idx : List Nat) (ho : pickOk idx pre.length = true) (hh : Hp S w0 (pre ++ tail) w) : Hp S w0 (pickL idx pre ++ tail) w := by
  simp only [pickOk, Bool.and_eq_true, List.all_eq_true] at ho
  have hd := distinctN_spec ho.1
  have hlt : ∀ i ∈ idx, i < pre.length := fun i hi => Nat.le_of_ble_eq_true (ho.2 i hi)
  have hget : ∀ i, i < pre.length → pre.getD i [] ∈ pre := fun i hi => by
    rw [List.getD_eq_getElem?_getD, List.getElem?_eq_getElem hi]; exact List.getElem_mem hi
  have hmem : ∀ s ∈ pickL idx pre, s ∈ pre := fun s hs => by
    obtain ⟨i, hi, rfl⟩ := List.mem_map.1 hs
    exact hget i (hlt i hi)
  refine hh.sub (fun p hp => ?_) ?_
  · obtain ⟨s, hs, hps⟩ := List.mem_flatten.1 hp
    refine List.mem_flatten.2 ⟨s, ?_, hps⟩
    rcases List.mem_append.1 hs with h | h
    · exact List.mem_append_left _ (hmem s h)
    · exact List.mem_append_right _ h
  · have hon := hh.once
    rw [List.map_flatten, List.map_append] at hon ⊢
    rw [List.Nodup, List.pairwise_flatten, List.pairwise_append] at hon ⊢
    obtain ⟨h1, h2, h3, h4⟩ := hon
    refine ⟨fun l hl => h1 l ?_, ?_, h3, fun a ha b hb => h4 a ?_ b hb⟩
    · rcases List.mem_append.1 hl with h | h
      · obtain ⟨s, hs, rfl⟩ := List.mem_map.1 h
        exact List.mem_append_left _ (List.mem_map.2 ⟨s, hmem s hs, rfl⟩)
      · exact List.mem_append_right _ h
    · unfold pickL
      rw [List.map_map, List.pairwise_map]
      refine hd.imp_of_mem fun {i j} hi hj hne => ?_
      rw [List.pairwise_map, List.pairwise_iff_getElem] at h2
      have hi' := hlt i hi
      have hj' := hlt j hj
      have e1 : pre.getD i [] = pre[i] := by rw [List.getD_eq_getElem?_getD, List.getElem?_eq_getElem hi']; rfl
      have e2 : pre.getD j [] = pre[j] := by rw [List.getD_eq_getElem?_getD, List.getElem?_eq_getElem hj']; rfl
      simp only [Function.comp_apply, e1, e2]
      rcases Nat.lt_or_gt_of_ne hne with h | h
      · exact h2 i j hi' hj' h
      · exact fun x hx y hy e => h2 j i hj' hi' h y hy x hx e.symm
    · obtain ⟨s, hs, rfl⟩ := List.mem_map.1 ha
      exact List.mem_map.2 ⟨s, hmem s hs, rfl⟩
/-- Some of the first blocks, in this order. -/
theorem TQ.pick {K : Act → World → Prop} (idx : List Nat) (pre : Heap) {tail η' : Heap} (he : η = pre ++ tail) (ho : pickOk idx pre.length = true) (hp : pickL idx pre ++ tail = η') (h : TQ S w0 n K ds σ η') : TQ S w0 n K ds σ η := fun a w hk hh => by
  subst he; subst hp; exact h a w hk (hh.pick idx ho)
theorem T.pick {c : Code} (idx : List Nat) (pre : Heap) {tail η' : Heap} (he : η = pre ++ tail) (ho : pickOk idx pre.length = true) (hp : pickL idx pre ++ tail = η') (h : T F P S w0 n Q c ds σ η') : T F P S w0 n Q c ds σ η := fun a w hk hh => by
  subst he; subst hp; exact h a w hk (hh.pick idx ho)
theorem TL.pick' {l : List Oper} (idx : List Nat) (pre : Heap) {tail η' : Heap} (he : η = pre ++ tail) (ho : pickOk idx pre.length = true) (hp : pickL idx pre ++ tail = η') (h : TL F P S w0 n ops Q l ds σ η') : TL F P S w0 n ops Q l ds σ η := fun a w hk hh => by
  subst he; subst hp; exact h a w hk (hh.pick idx ho)
/-- The same heap, in other words. -/
theorem TQ.heap {K : Act → World → Prop} {η' : Heap} (he : η = η') (h : TQ S w0 n K ds σ η') : TQ S w0 n K ds σ η := he ▸ h
theorem T.heap {c : Code} {η' : Heap} (he : η = η') (h : T F P S w0 n Q c ds σ η') : T F P S w0 n Q c ds σ η := he ▸ h
theorem TL.heap {l : List Oper} {η' : Heap} (he : η = η') (h : TL F P S w0 n ops Q l ds σ η') : TL F P S w0 n ops Q l ds σ η := he ▸ h
/-- Three heavy operations may come next. -/
theorem DH.heavy3 {l : List Oper} {m : Nat} {V : VL} {h1 h2 h3 : Nat} (hd : dagOk l = true) (ht : tailOk l m = true) (hq : dstsOk l m = true) (hcomp : complete l m V [h1, h2, h3] = true) (b1 : HB F P S w0 n l ds σ Q m V η h1) (b2 : HB F P S w0 n l ds σ Q m V η h2) (b3 : HB F P S w0 n l ds σ Q m V η h3) : DH F P S w0 n l ds σ Q m V η :=
  DH.node [h1, h2, h3] hd ht hq hcomp (fun h' hh => by
    rcases List.mem_cons.1 hh with e | hh
    · subst e; exact b1
    · rcases List.mem_cons.1 hh with e | hh
      · subst e; exact b2
      · have : h' = h3 := by simpa using hh
        subst this; exact b3) (fun ha => by obtain ⟨_, _, _, _, _, him, hnew, _⟩ := b1; exact not_all him hnew ha)
/-- An owned slice that is not empty: its block; and a cell of it that is written. -/
theorem OSl.ex {e : TypeId} {sz k : Nat} {v : Value} {xs : List Value} {seg : Seg} (h : OSl e sz v k xs seg) (hk : 0 < k) : ∃ g cap cur, v = .slice (some ⟨g, 0, none⟩) k cap ∧ seg = [(g, .cells cur e (0, 0))] ∧ k * sz ≤ cur.size := by
  rcases h.2 with ⟨_, h0, _⟩ | ⟨g, cap, cur, hv, hs, hc, hz, _⟩
  · omega
  · exact ⟨g, cap, cur, hv, hs, by rw [hz]; exact Nat.mul_le_mul_right _ hc⟩
theorem OSl.put {e : TypeId} {sz k g cap j : Nat} {cur : Array Value} {xs : List Value} {u : Value} (h : OSl e sz (.slice (some ⟨g, 0, none⟩) k cap) k xs [(g, .cells cur e (0, 0))]) : OSl e sz (.slice (some ⟨g, 0, none⟩) k cap) k (xs.set j u) [(g, .cells (cur.setIfInBounds j u) e (0, 0))] := by
  refine ⟨by rw [List.length_set]; exact h.1, ?_⟩
  rcases h.2 with ⟨h0, _⟩ | ⟨g', cap', cur', hv, hs, hc, hz, ht⟩
  · cases h0
  · simp only [Value.slice.injEq, Option.some.injEq, Addr.mk.injEq, and_true, true_and] at hv
    obtain ⟨rfl, rfl⟩ := hv
    simp only [List.cons.injEq, Prod.mk.injEq, Obj.cells.injEq, true_and, and_true] at hs
    subst hs
    refine .inr ⟨g, cap, _, rfl, rfl, hc, by simpa using hz, ?_⟩
    rw [Array.toList_setIfInBounds, List.take_set, ht]
theorem cut0' (a : Option Addr) (c sz : Nat) : (if c = 0 then a else a.map (·.add (0 * sz))) = a := by
  split
  · rfl
  · rw [Nat.zero_mul]
    cases a with
    | none => rfl
    | some x => simp [Addr.add]
/-- A division of naturals. -/
theorem TL.quoN (hF : Open F) {rest : List Oper} {d : Nat} {ty : TypeId} {pos : String} {af : Array Edge} {xt yt : TypeId} {x y : Operand} {k : IntKind} {a b : Nat} (hx : ev σ x = some (.int k (a : Int))) (hy : ev σ y = some (.int k (b : Int))) (hb : 0 < b) (hk : k.wrap ((a / b : Nat) : Int) = ((a / b : Nat) : Int)) (hn : Nat.blt d n = true)
    (h : TL F P S w0 n ops Q rest ds ((d, .int k ((a / b : Nat) : Int)) :: σ) η) : TL F P S w0 n ops Q (⟨some d, .binOp .quo xt x y yt, ty, pos, af, none⟩ :: rest) ds σ η :=
  TL.pure hF (by intro c; simp) hn (fun c w hk2 _ => by
    have hb' : (Op.intDiv .quo k (a : Int) (b : Int)).run P w = .ok (.int k ((a / b : Nat) : Int)) w := by
      unfold Op.intDiv
      rw [if_neg (by omega)]
      simp only [Sem.run_pure]
      have e : Int.tdiv (a : Int) (b : Int) = ((a / b : Nat) : Int) := by simp
      first | rw [e, hk] | (simp only [e]; rw [hk]) | simp [e, hk]
    simp [execOp, hk2.ev hx, hk2.ev hy, eqGuard, binOp, hb']) h
end
section
open Go.ChangeShapes Go.WideShapes Go.Deep Go.RowKit
variable {H : Type} {enc : TypeId × Value → H} {P : Program} {W : World}
/-- A slice of integers that are not negative. -/
theorem nats_read {t e : TypeId} {k : IntKind} (B : Nat) (hB : ∀ z, (Lit.int k z).wf = true → 0 ≤ z ∧ z < (B : Int)) (ht : P.underlying t = some (.slice e)) (he : P.underlying e = some (.int k)) (hc : P.cellsOf e = 1) {fuel : Nat} {v : Value} {x : DataW H × List MemPlace} (h : DataW.trod enc P W 0 (fun _ => true) true fuel t [v] = some x) :
    ∃ (a : Option Addr) (xs : List Nat) (cap : Nat), v = .slice a xs.length cap ∧ xs.length ≤ cap ∧ xs.length < 2 ^ 63 ∧ Row (Old W) W [] a (xs.map fun (n : Nat) => .int k (n : Int)) ∧ ∀ n ∈ xs, n < B := by
  obtain ⟨a, len, cap, n, cs, rfl, hl, hm, hlen, hrow, hel⟩ := slice_read ht (by omega) h
  rw [hc] at hlen hel
  obtain ⟨l, h1, h2, h3⟩ := list_read (c := 1) (Q := fun n : Nat => n < B) (fun (n : Nat) => [Value.int k (n : Int)]) hlen (fun i hi => by
    obtain ⟨y, hy⟩ := hel i hi
    obtain ⟨z, h1, _, h3⟩ := DataW.trod_int he hy
    have := hB z h3
    exact ⟨z.toNat, by rw [h1, Int.toNat_of_nonneg this.1], by omega⟩)
  subst h1
  refine ⟨a, l, cap, rfl, hl, by unfold maxLen at hm; omega, ?_, h3⟩
  have e : (l.map fun (n : Nat) => Value.int k (n : Int)) = cs := by rw [h2, List.map_eq_flatMap]
  rw [e]; exact hrow
theorem b16 (z : Int) (h : (Lit.int .u16 z).wf = true) : 0 ≤ z ∧ z < ((65536 : Nat) : Int) := by have := wf_u16 h; omega
theorem b8 (z : Int) (h : (Lit.int .u8 z).wf = true) : 0 ≤ z ∧ z < ((256 : Nat) : Int) := by have := wf_u8 h; omega
end
end Go.Sl
/- Maps: an entry of a literal; an entry that is taken away. -/
namespace Go.Sl
section
variable {F : Fence} {P : Program} {S : Nat → Prop} {w0 w : World} {n : Nat} {Q : Exit → Act → World → Prop} {ds : List Deferred} {σ : Env} {η : Heap} {ops : Array Oper} {rest : List Oper} {ty : TypeId} {pos : String} {af : Array Edge}
theorem TL.insert (hF : Open F) (i : Nat) {t kt et : TypeId} [Und P t (.map kt et)] {α β : Type} [DecidableEq α] {K : α → Value} [MKey P kt K] (V : β → Value) {m : List (α × β)} {es : Array MapEntry} {clock b : Nat} (k : α) (v : β)
    {x y z : Operand} (hx : ev σ x = some (.map (some b))) (hy : ev σ y = some (K k)) (hz : ev σ z = some (V v)) (hi : η[i]? = some [(b, .map es clock)]) (hm : MObj K V m es clock)
    (h : ∀ es' clock', MObj K V (mput k v m) es' clock' → TL F P S w0 n ops Q rest ds σ (η.set i [(b, .map es' clock')])) : TL F P S w0 n ops Q (⟨none, .insert t x y z, ty, pos, af, none⟩ :: rest) ds σ η :=
  TL.act hF (by intro c; simp) fun a w hk hh => by
    have hb := hh.inMem (List.mem_of_getElem? hi)
    have h1 := MKey.find (P := P) (kt := kt) (K := K) k es.toList (m.map (·.1)) w (by rw [hm.keys]; simp)
    have hput := hm.put k v
    cases hf : fidx k (m.map (·.1)) with
    | none =>
      rw [hf] at h1
      refine ⟨_, _, ?_, hh.turnI hi (.map (es.push { key := K k, val := V v, born := clock }) (clock + 1)), h _ _ (hput.2 hf)⟩
      have h1' : (Instr.findKey kt (K k) es.toList).run P w = .ok none w := h1
      simp [execOp, hk.ev hx, hk.ev hy, hk.ev hz, Instr.mapUpdate, run_underlying (t := t) (d := .map kt et), run_getMap hb, MKey.chk, h1', run_setB _ hb (.inl ⟨_, _, rfl⟩)]
    | some j =>
      rw [hf] at h1
      refine ⟨_, _, ?_, hh.turnI hi (.map (es.modify j fun e => { e with key := K k, val := V v }) clock), h _ _ (hput.1 j hf)⟩
      have hkey : ((es[j]?).map (·.key)).getD (K k) = K k := by
        have h2 := congrArg (fun l : List Value => l[j]?) hm.keys
        have h3 := fidx_lt hf
        simp only [List.getElem?_map] at h2 h3
        cases hmj : m[j]? with
        | none => simp [hmj] at h3
        | some p =>
          simp only [hmj, Option.map_some, Option.some.injEq] at h2 h3
          rw [h3] at h2
          rw [← Array.getElem?_toList, h2]; rfl
      have h1' : (Instr.findKey kt (K k) es.toList).run P w = .ok (some (j, ((es.toList[j]?).map (·.val)).getD undef)) w := h1
      have hst : (Instr.keyThatStays (K k) (K k)).run P w = .ok (K k) w := by simp [Instr.keyThatStays, MKey.same (P := P) (kt := kt) (K := K)]
      simp only [execOp, hk.ev hx, hk.ev hy, hk.ev hz, Instr.mapUpdate, Sem.run_bind, run_underlying (t := t) (d := .map kt et), Result.andThen_ok, run_getMap hb, MKey.chk, h1', hkey, hst, run_setB _ hb (.inl ⟨_, _, rfl⟩), Sem.run_pure]
theorem erase_map {α β : Type} (f : α → β) : ∀ (l : List α) (i : Nat), (l.eraseIdx i).map f = (l.map f).eraseIdx i
  | [], _ => rfl
  | x :: r, 0 => rfl
  | x :: r, i + 1 => by simp [List.eraseIdx, erase_map f r i]
theorem MObj.del {α β : Type} [DecidableEq α] {K : α → Value} {V : β → Value} {m : List (α × β)} {es : Array MapEntry} {clock i : Nat} (h : MObj K V m es clock) : MObj K V (m.eraseIdx i) (es.eraseIdxIfInBounds i) clock := by
  have e : (es.eraseIdxIfInBounds i).toList = es.toList.eraseIdx i := by simp
  refine ⟨?_, ?_, ?_, ?_, fun x hx => ?_⟩
  · rw [e, erase_map, h.keys, erase_map]
  · rw [e, erase_map, h.vals, erase_map]
  · rw [erase_map]; exact h.nd.sublist (List.eraseIdx_sublist _ _)
  · rw [e, erase_map]; exact h.born.sublist (List.eraseIdx_sublist _ _)
  · rw [e] at hx; exact h.old x ((List.eraseIdx_sublist _ _).subset hx)
theorem ItOk.del {α β : Type} {m : List (α × β)} {es : Array MapEntry} {seen : Array Nat} {done : List α} {i : Nat} (h : ItOk m es seen done) : ItOk (m.eraseIdx i) (es.eraseIdxIfInBounds i) seen done := by
  intro j e p he hp
  rw [show (es.eraseIdxIfInBounds i).toList = es.toList.eraseIdx i by simp, List.getElem?_eraseIdx] at he
  rw [List.getElem?_eraseIdx] at hp
  split at he
  · rename_i hj; rw [if_pos hj] at hp; exact h j e p he hp
  · rename_i hj; rw [if_neg hj] at hp; exact h (j + 1) e p he hp
theorem TL.delete (hF : Open F) (i : Nat) {t kt et tk : TypeId} [Und P t (.map kt et)] {α β : Type} [DecidableEq α] {K : α → Value} [MKey P kt K] (V : β → Value) {m : List (α × β)} {es : Array MapEntry} {clock b : Nat} (k : α)
    {x y : Operand} (hx : ev σ x = some (.map (some b))) (hy : ev σ y = some (K k)) (hi : η[i]? = some [(b, .map es clock)]) (hm : MObj K V m es clock)
    (h : ∀ es', MObj K V (mdel k m) es' clock → (∀ seen done, ItOk m es seen done → ItOk (mdel k m) es' seen done) → TL F P S w0 n ops Q rest ds σ (η.set i [(b, .map es' clock)])) : TL F P S w0 n ops Q (⟨none, .call ⟨.builtin .delete, #[x, y], #[t, tk]⟩, ty, pos, af, none⟩ :: rest) ds σ η :=
  TL.op hF rfl (by intro c; simp) fun a w hk hh => by
    have hb := hh.inMem (List.mem_of_getElem? hi)
    have h1 := MKey.find (P := P) (kt := kt) (K := K) k es.toList (m.map (·.1)) w (by rw [hm.keys]; simp)
    cases hf : fidx k (m.map (·.1)) with
    | none =>
      rw [hf] at h1
      have h1' : (Instr.findKey kt (K k) es.toList).run P w = .ok none w := h1
      have hrun : (execOp a.eval ⟨none, .call ⟨.builtin .delete, #[x, y], #[t, tk]⟩, ty, pos, af, none⟩).run P w = .ok (.value (.tuple #[])) (putBlk w b (.map es clock)) := by
        simp [execOp, resolve, Go.invoke, Go.builtin, Builtin.delete_, hk.ev hx, hk.ev hy, run_underlying (t := t) (d := .map kt et), run_getMap hb, MKey.chk, h1', run_setB _ hb (.inl ⟨_, _, rfl⟩)]
      rw [hrun]
      rw [mdel_none hf] at h
      exact h es hm (fun _ _ h => h) _ _ hk (hh.turnI hi _)
    | some j =>
      rw [hf] at h1
      have h1' : (Instr.findKey kt (K k) es.toList).run P w = .ok (some (j, ((es.toList[j]?).map (·.val)).getD undef)) w := h1
      have hrun : (execOp a.eval ⟨none, .call ⟨.builtin .delete, #[x, y], #[t, tk]⟩, ty, pos, af, none⟩).run P w = .ok (.value (.tuple #[])) (putBlk w b (.map (es.eraseIdxIfInBounds j) clock)) := by
        simp only [execOp, resolve, Go.invoke, Go.builtin, Builtin.delete_, hk.ev hx, hk.ev hy, Sem.run_bind, run_underlying (t := t) (d := .map kt et), Result.andThen_ok, run_getMap hb, MKey.chk, h1', run_setB _ hb (.inl ⟨_, _, rfl⟩), Sem.run_pure, List.getElem?_toArray, List.getElem?_cons_zero, List.getElem?_cons_succ, List.map_toArray, List.map_cons, List.map_nil]
      rw [hrun]
      rw [mdel_at hf] at h
      exact h _ hm.del (fun _ _ h => h.del) _ _ hk (hh.turnI hi _)
theorem mget_mdel {α β : Type} [DecidableEq α] (k k' : α) : ∀ {m : List (α × β)}, (m.map (·.1)).Nodup → mget k' (mdel k m) = if k' = k then none else mget k' m
  | [], _ => by simp [mdel, mget]
  | (a, b) :: r, hn => by
    simp only [List.map_cons, List.nodup_cons] at hn
    have ih := mget_mdel k k' hn.2
    unfold mdel
    by_cases h : k = a
    · subst h
      rw [if_pos rfl]
      by_cases h2 : k' = k
      · subst h2
        rw [if_pos rfl, mget_none]
        exact fun p hp e => hn.1 (by rw [← e]; exact List.mem_map.2 ⟨p, hp, rfl⟩)
      · rw [if_neg h2]; simp [mget, h2]
    · rw [if_neg h]
      simp only [mget, ih]
      by_cases h2 : k' = a
      · subst h2; rw [if_pos rfl, if_neg (fun e => h e.symm), if_pos rfl]
      · rw [if_neg h2, if_neg h2]
theorem mem_mdel {α β : Type} [DecidableEq α] {k : α} {p : α × β} : ∀ {m : List (α × β)}, p ∈ mdel k m → p ∈ m
  | [], h => by simp [mdel] at h
  | (a, b) :: r, h => by
    unfold mdel at h
    split at h
    · exact List.mem_cons_of_mem _ h
    · rcases List.mem_cons.1 h with rfl | h
      · exact List.mem_cons_self
      · exact List.mem_cons_of_mem _ (mem_mdel h)
end
end Go.Sl
/- Maps: an entry that is reached, and then written (m[k], x = v, y). -/
namespace Go.Sl
section
variable {F : Fence} {P : Program} {S : Nat → Prop} {w0 w : World} {n : Nat} {Q : Exit → Act → World → Prop} {ds : List Deferred} {σ : Env} {η : Heap} {ops : Array Oper} {rest : List Oper} {ty : TypeId} {pos : String} {af : Array Edge}
/-- The entry of a key, by its stamp. -/
def EntOk {α β : Type} [DecidableEq α] (k : α) (m : List (α × β)) (es : Array MapEntry) (born : Nat) : Prop := ∃ i e, es.toList[i]? = some e ∧ e.born = born ∧ fidx k (m.map (·.1)) = some i
theorem modify_same {es : Array MapEntry} {i : Nat} {f : MapEntry → MapEntry} (h : ∀ e, es.toList[i]? = some e → f e = e) : es.modify i f = es := by
  apply Array.ext'
  rw [Array.toList_modify]
  apply List.ext_getElem?
  intro j
  simp only [List.getElem?_modify, Option.map_eq_map]
  by_cases hij : i = j
  · subst hij
    cases he : es.toList[i]? with
    | none => rfl
    | some e => simp [h e he]
  · simp [hij]
theorem MObj.keyAt {α β : Type} [DecidableEq α] {K : α → Value} {V : β → Value} {m : List (α × β)} {es : Array MapEntry} {clock i : Nat} {k : α} (h : MObj K V m es clock) (hf : fidx k (m.map (·.1)) = some i) : ∃ e, es.toList[i]? = some e ∧ e.key = K k := by
  have hki := fidx_lt hf
  rw [List.getElem?_map] at hki
  have := congrArg (fun l : List Value => l[i]?) h.keys
  simp only [List.getElem?_map] at this
  cases hm : m[i]? with
  | none => simp [hm] at hki
  | some p =>
    simp only [hm, Option.map_some, Option.some.injEq] at hki this
    cases hes : es.toList[i]? with
    | none => simp [hes] at this
    | some e => simp only [hes, Option.map_some, Option.some.injEq] at this; exact ⟨e, rfl, by rw [this, hki]⟩
theorem fidx_new {α : Type} [DecidableEq α] {k : α} : ∀ {l : List α}, fidx k l = none → fidx k (l ++ [k]) = some l.length
  | [], _ => by simp [fidx]
  | a :: l, h => by
    simp only [fidx] at h
    simp only [List.cons_append, fidx, List.length_cons]
    by_cases e : k = a
    · simp [e] at h
    · simp only [e, if_false, Option.map_eq_none_iff] at h ⊢
      rw [fidx_new h]; rfl
theorem TL.mapEntry (hF : Open F) (i : Nat) {t kt et : TypeId} [Und P t (.map kt et)] {z : Value} {sz bt : Nat} [Inf P et z sz bt] {α β : Type} [DecidableEq α] {K : α → Value} [MKey P kt K] (V : β → Value) (zv : β) {m : List (α × β)} {es : Array MapEntry} {clock b : Nat} (k : α)
    {x y : Operand} {d : Nat} (hx : ev σ x = some (.map (some b))) (hy : ev σ y = some (K k)) (hz : V zv = z) (hi : η[i]? = some [(b, .map es clock)]) (hm : MObj K V m es clock) (hn : Nat.blt d n = true)
    (h : ∀ m' es' clock' born u, (m' = m ∨ m' = m ++ [(k, zv)]) → (∀ v, mput k v m' = mput k v m) → MObj K V m' es' clock' → EntOk k m' es' born → TL F P S w0 n ops Q rest ds ((d, .tuple #[u, .int .i64 (born : Int)]) :: σ) (η.set i [(b, .map es' clock')])) : TL F P S w0 n ops Q (⟨some d, .mapEntry t x y, ty, pos, af, none⟩ :: rest) ds σ η :=
  TL.val hF (by intro c; simp) hn fun a w hk hh => by
    have hb := hh.inMem (List.mem_of_getElem? hi)
    have h1 := MKey.find (P := P) (kt := kt) (K := K) k es.toList (m.map (·.1)) w (by rw [hm.keys]; simp)
    have hput := hm.put k zv
    have hzr : (zeroValue et).run P w = .ok z w := run_zeroValue w
    cases hf : fidx k (m.map (·.1)) with
    | none =>
      rw [hf] at h1
      have h1' : (Instr.findKey kt (K k) es.toList).run P w = .ok none w := h1
      have hnew := hput.2 hf
      rw [mput_new _ hf] at hnew
      have hfn : fidx k ((m ++ [(k, zv)]).map (·.1)) = some m.length := by
        rw [List.map_append]; have := fidx_new hf; simpa using this
      refine ⟨.tuple #[z, .int .i64 (clock : Int)], _, _, ?_, hh.turnI hi (.map (es.push { key := K k, val := V zv, born := clock }) (clock + 1)), h (m ++ [(k, zv)]) _ _ clock z (.inr rfl) (fun v => ?_) hnew ⟨m.length, { key := K k, val := V zv, born := clock }, ?_, rfl, hfn⟩⟩
      · simp [execOp, hk.ev hx, hk.ev hy, Instr.mapEntry, run_underlying (t := t) (d := .map kt et), run_getMap hb, MKey.chk, h1', run_setB _ hb (.inl ⟨_, _, rfl⟩), hzr, hz, goInt]
      · rw [mput_new _ hf, mput_at v hfn]
        apply List.ext_getElem?
        intro j
        simp only [List.getElem?_modify, Option.map_eq_map]
        by_cases hj : m.length = j
        · subst hj; simp
        · simp only [if_neg hj]
          by_cases hlt : j < m.length
          · simp [List.getElem?_append_left hlt]
          · rw [List.getElem?_eq_none (by simp; omega), List.getElem?_eq_none (by simp; omega)]; rfl
      · have hl : es.toList.length = m.length := by have := congrArg List.length hm.keys; simpa using this
        rw [Array.toList_push, List.getElem?_append_right (by omega), hl]; simp
    | some j =>
      rw [hf] at h1
      obtain ⟨e, he, hek⟩ := hm.keyAt hf
      have he' : es[j]? = some e := by rw [← Array.getElem?_toList]; exact he
      have h1' : (Instr.findKey kt (K k) es.toList).run P w = .ok (some (j, ((es.toList[j]?).map (·.val)).getD undef)) w := h1
      have hst : (Instr.keyThatStays (K k) (K k)).run P w = .ok (K k) w := by simp [Instr.keyThatStays, MKey.same (P := P) (kt := kt) (K := K)]
      have hmod : (es.modify j fun e => { e with key := K k }) = es := modify_same fun e2 h2 => by
        rw [he] at h2; cases h2; rw [← hek]
      refine ⟨.tuple #[e.val, .int .i64 (e.born : Int)], _, _, ?_, hh.turnI hi (.map es clock), h m _ _ e.born e.val (.inl rfl) (fun _ => rfl) hm ⟨j, e, he, rfl, hf⟩⟩
      simp only [execOp, hk.ev hx, hk.ev hy, Instr.mapEntry, Sem.run_bind, run_underlying (t := t) (d := .map kt et), Result.andThen_ok, run_getMap hb, MKey.chk, h1', hek, hst, hmod, run_setB _ hb (.inl ⟨_, _, rfl⟩), Sem.run_pure, he', he, Option.map_some, Option.getD_some, goInt]
theorem findIdx_born {l : List MapEntry} {i : Nat} {e : MapEntry} (hn : (l.map (·.born)).Nodup) (h : l[i]? = some e) : l.findIdx? (fun x => (x.born : Int) == (e.born : Int)) = some i := by
  induction l generalizing i with
  | nil => simp at h
  | cons x l ih =>
    rw [List.findIdx?_cons]
    simp only [List.map_cons, List.nodup_cons] at hn
    cases i with
    | zero => simp at h; subst h; simp
    | succ i =>
      simp only [List.getElem?_cons_succ] at h
      have hne : x.born ≠ e.born := fun he => hn.1 (by rw [he]; exact List.mem_map.2 ⟨e, List.mem_of_getElem? h, rfl⟩)
      have : ((x.born : Int) == (e.born : Int)) = false := by
        rw [beq_eq_false_iff_ne]; exact fun h => hne (Int.ofNat.inj h)
      rw [this, ih hn.2 h]; rfl
theorem TL.entryStore (hF : Open F) (i : Nat) {t : TypeId} {α β : Type} [DecidableEq α] {K : α → Value} (V : β → Value) {m : List (α × β)} {es : Array MapEntry} {clock b born : Nat} (k : α) (v : β)
    {x y z : Operand} (hx : ev σ x = some (.map (some b))) (hy : ev σ y = some (.int .i64 (born : Int))) (hz : ev σ z = some (V v)) (hi : η[i]? = some [(b, .map es clock)]) (hm : MObj K V m es clock) (he : EntOk k m es born)
    (h : ∀ es', MObj K V (mput k v m) es' clock → TL F P S w0 n ops Q rest ds σ (η.set i [(b, .map es' clock)])) : TL F P S w0 n ops Q (⟨none, .entryStore t x y z, ty, pos, af, none⟩ :: rest) ds σ η :=
  TL.act hF (by intro c; simp) fun a w hk hh => by
    have hb := hh.inMem (List.mem_of_getElem? hi)
    obtain ⟨j, e, h1, rfl, hf⟩ := he
    obtain ⟨e', h2, hek⟩ := hm.keyAt hf
    rw [h1] at h2; cases h2
    have hfi : es.findIdx? (fun x => (x.born : Int) == (e.born : Int)) = some j := by
      rw [show es = es.toList.toArray from rfl, List.findIdx?_toArray]; exact findIdx_born hm.born h1
    have hput := (hm.put k v).1 j hf
    have hmod : (es.modify j fun e => { e with key := K k, val := V v }) = es.modify j fun e => { e with val := V v } := by
      apply Array.ext'
      rw [Array.toList_modify, Array.toList_modify]
      apply List.ext_getElem?
      intro q
      simp only [List.getElem?_modify, Option.map_eq_map]
      by_cases hq : j = q
      · subst hq; simp [h1, hek]
      · simp [hq]
    rw [hmod] at hput
    refine ⟨_, _, ?_, hh.turnI hi (.map (es.modify j fun e => { e with val := V v }) clock), h _ hput⟩
    simp only [execOp, hk.ev hx, hk.ev hy, hk.ev hz, Instr.entryStore, Sem.run_bind, run_getMap hb, Result.andThen_ok, asInt, asIntOf, Sem.run_pure, hfi, run_setB _ hb (.inl ⟨_, _, rfl⟩)]
end
section
variable {F : Fence} {P : Program} {S : Nat → Prop} {w0 w : World} {n : Nat} {Q : Exit → Act → World → Prop} {l : List Oper} {ds : List Deferred} {σ : Env} {η : Heap} {m : Nat} {V : VL}
def QBN (F : Fence) (P : Program) (S : Nat → Prop) (w0 : World) (n : Nat) (l : List Oper) (ds : List Deferred) (σ : Env) (Q : Exit → Act → World → Prop) (m : Nat) (V : VL) (h : Nat) (σ' : Env) : Exit → Act → World → Prop
  | .normal, a, w => ∃ η', Kn n ds σ' a ∧ Hp S w0 η' w ∧ DH F P S w0 n l ds σ Q m ((h, undef, 2) :: execV V) η'
  | e, a, w => Q e a w
theorem TL.finN {h : Nat} {σ' : Env} {ops : Array Oper} (hd : DH F P S w0 n l ds σ Q m ((h, undef, 2) :: execV V) η) : TL F P S w0 n ops (QBN F P S w0 n l ds σ Q m V h σ') [] ds σ' η := TL.nil fun _ _ hk hh => ⟨η, hk, hh, hd⟩
theorem InvD.putN {V' : VL} {η' : Heap} {L : Array Bool} {a a' : Act} {w' : World} (hi : InvD S w0 n l ds σ V η L a w) {i : Nat} (hL : L[i]? = some false) (hready : ∀ j, waits l i j = true → L[j]? = some true)
    (hV : ∀ j u, vget V j = some u → vget V' j = some u) (hV' : ∀ j u, j ≠ i → vget V' j = some u → vget V j = some u) (hvi : (vget V' i).isSome = true) (hdi : dstOf l i = none)
    (hdone : ∀ j u, (j, u, 2) ∈ V' → j = i ∨ L[j]? = some true)
    (hs : a'.tmps.size = n) (hds : a'.defers = ds) (ho : ∀ (t : Nat) (u : Value), a.tmps[t]? = some u → a'.tmps[t]? = some u) (hh : Hp S w0 η' w') : InvD S w0 n l ds σ V' η' (L.setIfInBounds i true) a' w' := by
  have hil := (Array.getElem?_eq_some_iff.1 hL).1
  have hset : ∀ k, (L.setIfInBounds i true)[k]? = some true ↔ k = i ∨ L[k]? = some true := by
    intro k
    rw [Array.getElem?_setIfInBounds]
    by_cases e : i = k
    · subst e; simp [hil]
    · rw [if_neg e]
      constructor
      · exact .inr
      · rintro (h | h)
        · exact absurd h.symm e
        · exact h
  refine ⟨by simp [hi.size], ?_, ?_, ?_, hs, hds, ?_, ?_, hh⟩
  · intro k hk
    rcases (hset k).1 hk with e | hk
    · subst e; exact hvi
    · have := hi.dom k hk
      cases hv : vget V k with
      | none => simp [hv] at this
      | some u => rw [hV k u hv]; rfl
  · intro j u hj
    rcases hdone j u hj with e | h
    · exact (hset j).2 (.inl e)
    · exact (hset j).2 (.inr h)
  · intro k j hw hk
    rcases (hset k).1 hk with e | hk
    · subst e; exact (hset j).2 (.inr (hready j hw))
    · exact (hset j).2 (.inr (hi.down k j hw hk))
  · intro t u ht hno
    exact ho t u (hi.old t u ht fun k hk => hno k ((hset k).2 (.inr hk)))
  · intro j u d' hj hv hd'
    rcases (hset j).1 hj with e | hj2
    · subst e; rw [hdi] at hd'; cases hd'
    · have hji : j ≠ i := fun e => by subst e; rw [hL] at hj2; cases hj2
      exact ho d' u (hi.new j u d' hj2 (hV' j u hji hv) hd')
theorem run_oneN {L : Array Bool} {a : Act} {i : Nat} {o : Oper} {env : List (Nat × Value × Option Nat)} {QO : Env → Exit → Act → World → Prop} (hi : InvD S w0 n l ds σ V η L a w) (hL : L[i]? = some false) (hready : ∀ j, waits l i j = true → L[j]? = some true) (ho : l[i]? = some o) (henv : EnvOkV l σ V i env)
    (hop : ∀ ext : Env, TL F P S w0 n l.toArray (QO (envs env ++ ext)) [o] ds (envs env ++ ext) η) :
    wpOpIn F 0 P l.toArray (QO (envs env ++ fullEnv a)) i (fun a' w' => QO (envs env ++ fullEnv a) .normal a' w') a w ∧ (∀ a' : Act, Kn n ds (envs env ++ fullEnv a) a' → ∀ (t : Nat) (u : Value), a.tmps[t]? = some u → a'.tmps[t]? = some u) := by
  have hke : ∀ t v, lk (envs env) t = some v → a.tmps[t]? = some v := hi.env hL hready henv
  have hkn : Kn n ds (envs env ++ fullEnv a) a := ⟨hi.tsize, hi.defers, fun t v htv => by
    rcases lk_append htv with h5 | ⟨_, h5⟩
    · exact hke t v h5
    · exact lk_full a t v h5⟩
  have h6 := hop (fullEnv a) a w hkn hi.hp
  rw [wpListIn_one (i := i) (by simp [ho])] at h6
  refine ⟨wpOpIn_mono (fun a' w' hx => hx) h6, fun a' hk' t u htu => ?_⟩
  refine hk'.slot t u ?_
  have hfull : lk (fullEnv a) t = some u := by
    have := lk_full' a.tmps.toList 0 t u (by simpa using htu)
    simpa [fullEnv] using this
  have happ : ∀ (e1 : Env), (∀ v, lk e1 t = some v → v = u) → lk (e1 ++ fullEnv a) t = some u := by
    intro e1
    induction e1 with
    | nil => intro _; exact hfull
    | cons p r ihr =>
      obtain ⟨s, v⟩ := p
      intro hv
      rw [List.cons_append, lk_cons]
      by_cases hst : s = t
      · rw [if_pos hst, hv v (by rw [lk_cons, if_pos hst])]
      · rw [if_neg hst]; exact ihr fun v' hv' => hv v' (by rw [lk_cons, if_neg hst]; exact hv')
  exact happ _ fun v hv => by
    have := hke t v hv
    rw [htu] at this; cases this; rfl
/-- One heavy operation, without a slot, may come next. -/
theorem DH.heavyN (h : Nat) (env : List (Nat × Value × Option Nat)) {o : Oper} (hd : dagOk l = true) (ht : tailOk l m = true) (hq : dstsOk l m = true) (hcomp : complete l m V [h] = true) (ho : l[h]? = some o) (hod : o.dst = none) (him : Nat.blt h m = true) (hnew : vget V h = none) (henv : EnvOkV l σ V h env) (hrd : readersOk l V h = true)
    (hop : ∀ ext : Env, TL F P S w0 n l.toArray (QBN F P S w0 n l ds σ Q m V h (envs env ++ ext)) [o] ds (envs env ++ ext) η) : DH F P S w0 n l ds σ Q m V η := by
  have hleaf : (∀ i, i < m → (vget V i).isSome = true) → TL F P S w0 n l.toArray Q (l.drop m) ds (allEnvV l V σ) η := fun ha => not_all him hnew ha
  intro hn h0 h1 hk
  have him0 : h < m := Nat.le_of_ble_eq_true him
  have hml : m ≤ l.length := by
    simp only [dstsOk, Bool.and_eq_true] at hq
    exact Nat.le_of_ble_eq_true hq.1
  have hdom : ∀ j, (vget V j).isSome = true → j < m := by
    intro j hj
    cases hv : vget V j with
    | none => simp [hv] at hj
    | some u => obtain ⟨k, hm⟩ := vget_mem hv; exact (hk j u k hm).1
  have last : ∀ (f : Nat) (L : Array Bool) (a : Act) (w : World), L.toList.countP (· == false) = f → InvD S w0 n l ds σ V η L a w → (∀ k, k < m → L[k]? = some true) → wpAnyIn F 0 P .any l.toArray Q f L a w := by
    intro f L a w hc hi hall
    have hsz := hi.size
    have hLq : ∀ k, L[k]? = some true → k < m := fun k hk' => hdom k (hi.dom k hk')
    have hL : ∀ j, j < l.length → L[j]? = some (decide (j < m)) := fun j hj => by
      by_cases h1 : j < m
      · rw [hall j h1]; simp [h1]
      · have hj' : j < L.size := by omega
        have : L[j]? ≠ some true := fun e => h1 (hLq j e)
        simp only [hj', Array.getElem?_eq_getElem] at this ⊢
        cases h4 : L[j] with
        | true => rw [h4] at this; exact absurd rfl this
        | false => simp [h1]
    have hLeq : L.toList = List.replicate m true ++ List.replicate (l.length - m) false := by
      apply List.ext_getElem?
      intro j
      rw [Array.getElem?_toList]
      by_cases hj : j < l.length
      · rw [hL j hj]
        by_cases h1 : j < m
        · rw [List.getElem?_append_left (by simpa using h1)]; simp [h1]
        · rw [List.getElem?_append_right (by simpa using h1)]
          rw [List.getElem?_replicate, List.length_replicate, if_pos (by omega)]
          simp [h1]
      · rw [Array.getElem?_eq_none (by omega), List.getElem?_eq_none (by simp; omega)]
    have hf : m + f = l.length := by
      rw [hLeq] at hc
      simp [List.countP_append, List.countP_replicate] at hc
      omega
    refine any_tail hd ht f m L a w hf (Nat.le_refl _) hsz hL (hleaf (fun i him => hi.dom i (hall i him)) a w ⟨hi.tsize, hi.defers, fun t v htv => ?_⟩ hi.hp)
    have hmem : ∀ t v, (t, v) ∈ (V.filterMap fun x => (dstOf l x.1).map fun d => (d, x.2.1)) → ∃ i, vget V i = some v ∧ dstOf l i = some t := by
      intro t v h
      obtain ⟨⟨i, u, k⟩, h1, h2⟩ := List.mem_filterMap.1 h
      simp only [Option.map_eq_some_iff, Prod.mk.injEq] at h2
      obtain ⟨d, hd, rfl, rfl⟩ := h2
      exact ⟨i, mem_vget hn h1, hd⟩
    rcases lk_append htv with h5 | ⟨h5, h6⟩
    · obtain ⟨i, h3, h4⟩ := hmem t v (lk_mem h5)
      exact hi.new i v t (hall i (hdom i (by rw [h3]; rfl))) h3 h4
    · refine hi.old t v h6 fun k hk1 hk2 => ?_
      have hkv := hi.dom k hk1
      cases hv : vget V k with
      | none => simp [hv] at hkv
      | some u =>
        obtain ⟨kk, hm⟩ := vget_mem hv
        refine lk_none h5 u (List.mem_filterMap.2 ⟨(k, u, kk), hm, by simp [hk2]⟩)
  intro f
  induction f with
  | zero =>
    intro L a w hc hi
    refine last 0 L a w hc hi (fun j hj => ?_)
    have hsz := hi.size
    have hj' : j < L.size := by omega
    rw [List.countP_eq_zero] at hc
    have := hc L[j] (by simp)
    simp at this
    simp [hj', this]
  | succ f ih =>
    intro L a w hc hi
    have hsz := hi.size
    by_cases hall : ∀ k, k < m → L[k]? = some true
    · exact last (f + 1) L a w hc hi hall
    · simp only [Classical.not_forall] at hall
      obtain ⟨j, hj, hjn⟩ := hall
      have hjL : L[j]? = some false := by
        have hj' : j < L.size := by omega
        simp only [hj', Array.getElem?_eq_getElem] at hjn ⊢
        cases h4 : L[j] with
        | true => rw [h4] at hjn; exact absurd rfl hjn
        | false => rfl
      refine ⟨fun he => by
        obtain ⟨i, hi'⟩ := ready_ex hd hsz j hjL
        rw [he] at hi'; simp at hi', fun i hir => ?_⟩
      obtain ⟨hLi, hready⟩ := mem_ready hsz hir
      have hilt := (Array.getElem?_eq_some_iff.1 hLi).1
      have him : i < m := by
        rcases Nat.lt_or_ge i m with h3 | h3
        · exact h3
        · have : L[j]? = some true := by
            simp only [tailOk, List.all_eq_true, List.mem_range, Bool.or_eq_true] at ht
            rcases ht i (by omega) with h4 | h4
            · have : i < m := Nat.le_of_ble_eq_true h4
              omega
            · rcases h4 j (by omega) with h5 | h5
              · exact hready j h5
              · exact waitsT_done hi.down _ i j hready h5
          rw [hjL] at this; cases this
      have hcnt : (L.setIfInBounds i true).toList.countP (· == false) = f := by
        rw [Array.toList_setIfInBounds, List.countP_set (by simpa using hilt)]
        have h7 : L.toList[i]'(by simpa using hilt) = false := by
          have := (Array.getElem?_eq_some_iff.1 hLi).2
          simpa using this
        rw [h7, hc]; simp
      simp only [complete, List.all_eq_true, List.mem_range, Bool.or_eq_true] at hcomp
      rcases hcomp i him with (hv | hv) | hv
      · -- a quiet one
        cases hvi : vget V i with
        | none => simp [hvi] at hv
        | some v =>
          obtain ⟨k, hmem⟩ := vget_mem hvi
          have hqs : QSV F P S w0 n l ds σ V η i v := by
            rcases (hk i v k hmem).2 with e | e | e
            · subst e; exact h0 i v hmem η
            · subst e; exact h1 i v hmem
            · subst e; have := hi.done i v hmem; rw [hLi] at this; cases this
          obtain ⟨o, d, env, ho, hod, henv, hop⟩ := hqs
          have hdi : dstOf l i = some d := by simp [dstOf, ho, hod]
          obtain ⟨hrun, hfr⟩ := run_one (d := d) (QO := fun σ' => Fin S w0 n ds η ((d, v) :: σ')) hi hLi hready ho henv hop
          refine wpOpIn_monoQ (fun a' w' hx => ?_) (fun e a' w' hne hx => by cases e <;> first | exact absurd rfl hne | exact hx.elim) hrun
          obtain ⟨hk', hh'⟩ := (show Kn n ds ((d, v) :: (envs env ++ fullEnv a)) a' ∧ Hp S w0 η w' from hx)
          exact ih _ a' w' hcnt (hi.put hq him hLi hready (fun _ _ h => h) (fun _ _ _ h => h) hvi hdom hdi (fun j u hm => .inr (hi.done j u hm)) hk'.size hk'.defers (hfr v a' hk').1 (hfr v a' hk').2 hh')
      · -- a heavy one
        have hih : i = h := by
          have : Nat.beq i h = true := by simpa using hv
          exact Nat.eq_of_beq_eq_true this
        subst hih
        have hdi : dstOf l i = none := by simp [dstOf, ho, hod]
        obtain ⟨hrun, hfr⟩ := run_oneN (QO := fun σ' => QBN F P S w0 n l ds σ Q m V i σ') hi hLi hready ho henv hop
        refine wpOpIn_monoQ (fun a' w' hx => ?_) (fun e a' w' hne hx => by cases e <;> first | exact absurd rfl hne | exact hx) hrun
        obtain ⟨η', hk', hh', hdh⟩ := (show ∃ η', Kn n ds (envs env ++ fullEnv a) a' ∧ Hp S w0 η' w' ∧ DH F P S w0 n l ds σ Q m ((i, undef, 2) :: execV V) η' from hx)
        have hext : ∀ j u, vget V j = some u → vget ((i, undef, 2) :: execV V) j = some u := by
          intro j u hj
          rw [vget_cons, vget_exec]
          by_cases e : i = j
          · subst e; rw [hnew] at hj; cases hj
          · rw [if_neg e]; exact hj
        have hex : ∀ j u k, (j, u, k) ∈ execV V → ∃ k0, (j, u, k0) ∈ V ∧ ((k0 = 1 ∧ k = 2) ∨ (k0 ≠ 1 ∧ k = k0)) := by
          intro j u k hm
          obtain ⟨⟨j0, u0, k0⟩, hx0, he⟩ := List.mem_map.1 hm
          simp only [Prod.mk.injEq] at he
          obtain ⟨rfl, rfl, hke⟩ := he
          refine ⟨k0, hx0, ?_⟩
          by_cases e : k0 = 1
          · subst e; left; exact ⟨rfl, hke.symm⟩
          · right
            have : Nat.beq k0 1 = false := by
              cases hb : Nat.beq k0 1
              · rfl
              · exact absurd (Nat.eq_of_beq_eq_true hb) e
            rw [this] at hke; exact ⟨e, hke.symm⟩
        have hmapf : (execV V).map (·.1) = V.map (·.1) := by simp [execV, Function.comp_def]
        refine hdh ?_ ?_ ?_ ?_ f _ a' w' hcnt (hi.putN hLi hready hext ?_ (by rw [vget_cons, if_pos rfl]; rfl) hdi ?_ hk'.size hk'.defers (hfr a' hk') hh')
        · rw [List.map_cons, hmapf]
          refine List.nodup_cons.2 ⟨fun hm => ?_, hn⟩
          obtain ⟨⟨j0, u0, k0⟩, hx0, he⟩ := List.mem_map.1 hm
          simp only at he; subst he
          have := mem_vget hn hx0
          rw [hnew] at this; cases this
        · intro j u hm η2
          rcases List.mem_cons.1 hm with e | hm
          · cases e
          · obtain ⟨k0, hx0, h2 | h2⟩ := hex j u 0 hm
            · exact absurd h2.2 (by decide)
            · rw [← h2.2] at hx0; exact (h0 j u hx0 η2).ext hext
        · intro j u hm
          rcases List.mem_cons.1 hm with e | hm
          · cases e
          · obtain ⟨k0, hx0, h2 | h2⟩ := hex j u 1 hm
            · exact absurd h2.2 (by decide)
            · exact absurd h2.2.symm h2.1
        · intro j u k hm
          rcases List.mem_cons.1 hm with e | hm
          · cases e; exact ⟨him0, .inr (.inr rfl)⟩
          · obtain ⟨k0, hx0, h2 | h2⟩ := hex j u k hm
            · exact ⟨(hk j u k0 hx0).1, .inr (.inr h2.2)⟩
            · rw [h2.2]; exact hk j u k0 hx0
        · intro j u hji hv2
          rw [vget_cons, if_neg (fun e => hji e.symm), vget_exec] at hv2; exact hv2
        · intro j u hm
          rcases List.mem_cons.1 hm with e | hm
          · cases e; exact .inl rfl
          · obtain ⟨k0, hx0, h2 | h2⟩ := hex j u 2 hm
            · right
              simp only [readersOk, List.all_eq_true] at hrd
              have h3 := hrd (j, u, k0) hx0
              simp only [h2.1, Bool.or_eq_true, Bool.not_eq_true'] at h3
              rcases h3 with h3 | h3 | h3
              · simp at h3
              · exact hready j h3
              · exact waitsT_done hi.down _ i j hready h3
            · right; rw [← h2.2] at hx0; exact hi.done j u hx0
      · -- it waits for what is not known
        exfalso
        simp only [List.any_eq_true, List.mem_range, Bool.and_eq_true, Bool.or_eq_true] at hv
        obtain ⟨j2, hj2, hnone, hw⟩ := hv
        have hLj : L[j2]? = some true := by
          rcases hw with h5 | h5
          · exact hready j2 h5
          · exact waitsT_done hi.down _ i j2 hready h5
        have := hi.dom j2 hLj
        cases hvv : vget V j2 with
        | none => simp [hvv] at this
        | some u => simp [hvv] at hnone
end
end Go.Sl
/- Words of 32 bits: the low bits of a number; remainders; truths that differ. -/
namespace Go.Sl
section
variable {F : Fence} {P : Program} {S : Nat → Prop} {w0 w : World} {n : Nat} {Q : Exit → Act → World → Prop} {ds : List Deferred} {σ : Env} {η : Heap} {ops : Array Oper} {rest : List Oper} {ty : TypeId} {pos : String} {af : Array Edge} {d : Nat}
theorem and_low (a : Int) : IntKind.i64.wrap ((BitVec.ofInt 64 a &&& BitVec.ofInt 64 4294967295).toNat : Int) = a % 4294967296 := by
  have h1 : (BitVec.ofInt 64 (4294967295 : Int)) = BitVec.ofNat 64 (2 ^ 32 - 1) := by decide
  have h2 : (BitVec.ofInt 64 a &&& BitVec.ofInt 64 4294967295).toNat = (BitVec.ofInt 64 a).toNat % 2 ^ 32 := by
    rw [h1, BitVec.toNat_and, BitVec.toNat_ofNat, Nat.mod_eq_of_lt (by decide : 2 ^ 32 - 1 < 2 ^ 64), Nat.and_two_pow_sub_one_eq_mod]
  rw [h2, BitVec.toNat_ofInt, wrap_i64 (by omega) (by omega)]
  omega
theorem TL.andLow (hF : Open F) {xt yt : TypeId} {x y : Operand} {a : Int} (hx : ev σ x = some (.int .i64 a)) (hy : ev σ y = some (.int .i64 4294967295)) (hn : Nat.blt d n = true)
    (h : TL F P S w0 n ops Q rest ds ((d, .int .i64 (a % 4294967296)) :: σ) η) : TL F P S w0 n ops Q (⟨some d, .binOp .and xt x y yt, ty, pos, af, none⟩ :: rest) ds σ η :=
  TL.pure hF (by intro c; simp) hn (fun b w hk _ => by
    have hb : (Op.intBits .and .i64 a 4294967295).run P w = .ok (.int .i64 (a % 4294967296)) w := by
      have := and_low a
      unfold Op.intBits
      simp only [Sem.run_pure]
      congr 2
    simp [execOp, hk.ev hx, hk.ev hy, eqGuard, binOp, hb]) h
theorem TL.remI (hF : Open F) {xt yt : TypeId} {x y : Operand} {k : IntKind} {a b : Int} (hx : ev σ x = some (.int k a)) (hy : ev σ y = some (.int k b)) (hb : b ≠ 0) (hn : Nat.blt d n = true)
    (h : TL F P S w0 n ops Q rest ds ((d, .int k (Int.tmod a b)) :: σ) η) : TL F P S w0 n ops Q (⟨some d, .binOp .rem xt x y yt, ty, pos, af, none⟩ :: rest) ds σ η :=
  TL.pure hF (by intro c; simp) hn (fun c w hk _ => by
    have hb' : (Op.intDiv .rem k a b).run P w = .ok (.int k (Int.tmod a b)) w := by
      unfold Op.intDiv
      rw [if_neg hb]
      simp only [Sem.run_pure]
    simp [execOp, hk.ev hx, hk.ev hy, eqGuard, binOp, hb']) h
theorem TL.neqB (hF : Open F) {xt yt : TypeId} [hu : Und P xt .bool] {x y : Operand} {a b : Bool} (hx : ev σ x = some (.bool a)) (hy : ev σ y = some (.bool b)) (hn : Nat.blt d n = true)
    (h : TL F P S w0 n ops Q rest ds ((d, .bool (a != b)) :: σ) η) : TL F P S w0 n ops Q (⟨some d, .binOp .neq xt x y yt, ty, pos, af, none⟩ :: rest) ds σ η :=
  TL.pure hF (by intro c; simp) hn (fun c w hk _ => by
    have he : (Op.equalIn Op.maxDepth xt (.bool a) (.bool b)).run P w = .ok (a == b) w := run_equalIn_bool' w 9999 xt a b hu.eq
    simp [execOp, hk.ev hx, hk.ev hy, eqGuard, binOp, Op.equal, he, bne]) h
theorem TL.eqlB (hF : Open F) {xt yt : TypeId} [hu : Und P xt .bool] {x y : Operand} {a b : Bool} (hx : ev σ x = some (.bool a)) (hy : ev σ y = some (.bool b)) (hn : Nat.blt d n = true)
    (h : TL F P S w0 n ops Q rest ds ((d, .bool (a == b)) :: σ) η) : TL F P S w0 n ops Q (⟨some d, .binOp .eql xt x y yt, ty, pos, af, none⟩ :: rest) ds σ η :=
  TL.pure hF (by intro c; simp) hn (fun c w hk _ => by
    have he : (Op.equalIn Op.maxDepth xt (.bool a) (.bool b)).run P w = .ok (a == b) w := run_equalIn_bool' w 9999 xt a b hu.eq
    simp [execOp, hk.ev hx, hk.ev hy, eqGuard, binOp, Op.equal, he]) h
/-- Structs of scalars are the same if all fields are. -/
def AllF (P : Program) (w : World) (e : Nat) (xs ys : Array Value) : List Field → List (Value × Value × Bool) → Prop
  | [], [] => True
  | f :: fs, p :: ps => (f.name ≠ "_" ∧ (part f.type xs f.offset).run P w = .ok p.1 w ∧ (part f.type ys f.offset).run P w = .ok p.2.1 w ∧ (Op.equalIn e f.type p.1 p.2.1).run P w = .ok p.2.2 w) ∧ AllF P w e xs ys fs ps
  | _, _ => False
theorem run_eqFields_all {e : Nat} {xs ys : Array Value} : ∀ (fs : List Field) (ps : List (Value × Value × Bool)), AllF P w e xs ys fs ps → (Op.eqFields e xs ys fs).run P w = .ok (ps.all (·.2.2)) w
  | [], [], _ => rfl
  | [], _ :: _, h => h.elim
  | _ :: _, [], h => h.elim
  | f :: fs, p :: ps, h => by
    obtain ⟨⟨h1, h2, h3, h4⟩, hr⟩ := h
    have ih := run_eqFields_all fs ps hr
    simp only [Op.eqFields, ne_eq, h1, not_false_eq_true, if_true, Sem.run_bind, h2, h3, h4, Result.andThen_ok, List.all_cons]
    cases p.2.2 with
    | true => simpa using ih
    | false => rfl
theorem TL.neqA (hF : Open F) {xt yt : TypeId} {x y : Operand} {xa xb : Array Value} {r : Bool} (hx : ev σ x = some (.agg xa)) (hy : ev σ y = some (.agg xb)) (hg : P.eqGuardType P.depth xt = false) (hr : ∀ w, (Op.equal xt (.agg xa) (.agg xb)).run P w = .ok r w) (hn : Nat.blt d n = true)
    (h : TL F P S w0 n ops Q rest ds ((d, .bool (!r)) :: σ) η) : TL F P S w0 n ops Q (⟨some d, .binOp .neq xt x y yt, ty, pos, af, none⟩ :: rest) ds σ η :=
  TL.pure hF (by intro c; simp) hn (fun c w hk _ => by
    have := hr w
    simp [execOp, hk.ev hx, hk.ev hy, eqGuard, binOp, this, hg]) h
theorem TL.eqlA (hF : Open F) {xt yt : TypeId} {x y : Operand} {xa xb : Array Value} {r : Bool} (hx : ev σ x = some (.agg xa)) (hy : ev σ y = some (.agg xb)) (hg : P.eqGuardType P.depth xt = false) (hr : ∀ w, (Op.equal xt (.agg xa) (.agg xb)).run P w = .ok r w) (hn : Nat.blt d n = true)
    (h : TL F P S w0 n ops Q rest ds ((d, .bool r) :: σ) η) : TL F P S w0 n ops Q (⟨some d, .binOp .eql xt x y yt, ty, pos, af, none⟩ :: rest) ds σ η :=
  TL.pure hF (by intro c; simp) hn (fun c w hk _ => by
    have := hr w
    simp [execOp, hk.ev hx, hk.ev hy, eqGuard, binOp, this, hg]) h
end
end Go.Sl
/- Regions that draw their order: heavy operations behind which some reads are still to come; with or without a slot. What is frozen, thawed. -/
namespace Go.Sl
section
variable {F : Fence} {P : Program} {S S' : Nat → Prop} {w0 w w1 : World} {n : Nat} {Q : Exit → Act → World → Prop} {l : List Oper} {ds : List Deferred} {σ : Env} {η ηr : Heap} {m : Nat} {V : VL}
theorem T.thaw {c : Code} (hz : Frz S S' w0 w1 ηr) (h : T F P S w0 n Q c ds σ (ηr ++ η)) : T F P S' w1 n Q c ds σ η := fun a w hk hh => h a w hk (hz.back _ _ hh)
theorem TL.thaw {ops : Array Oper} {c : List Oper} (hz : Frz S S' w0 w1 ηr) (h : TL F P S w0 n ops Q c ds σ (ηr ++ η)) : TL F P S' w1 n ops Q c ds σ η := fun a w hk hh => h a w hk (hz.back _ _ hh)
theorem TQ.thaw {K : Act → World → Prop} (hz : Frz S S' w0 w1 ηr) (h : TQ S w0 n K ds σ (ηr ++ η)) : TQ S' w1 n K ds σ η := fun a w hk hh => h a w hk (hz.back _ _ hh)
def inL (k : Nat) (ks : List Nat) : Bool := ks.any (Nat.beq k)
theorem inL_iff {k : Nat} {ks : List Nat} : inL k ks = true ↔ k ∈ ks := by
  unfold inL
  rw [List.any_eq_true]
  constructor
  · rintro ⟨x, hx, he⟩; rw [Nat.eq_of_beq_eq_true he]; exact hx
  · exact fun h => ⟨k, h, by simp⟩
/-- Reads that are still to come stay; the others are carried out. -/
def keepV (ks : List Nat) (V : VL) : VL := V.map fun x => (x.1, x.2.1, bif Nat.beq x.2.2 1 then (bif inL x.1 ks then 1 else 2) else x.2.2)
theorem vget_keep (ks : List Nat) : ∀ (V : VL) (j : Nat), vget (keepV ks V) j = vget V j
  | [], _ => rfl
  | (i, v, k) :: r, j => by
    have := vget_keep ks r j
    show vget ((i, v, _) :: keepV ks r) j = _
    rw [vget_cons, vget_cons, this]
def readersOkK (l : List Oper) (V : VL) (h : Nat) (ks : List Nat) : Bool := V.all fun x => !Nat.beq x.2.2 1 || inL x.1 ks || (waits l h x.1 || waitsT l l.length h x.1)
/-- What is asked of the reads that stay. -/
def KeepQ (F : Fence) (P : Program) (S : Nat → Prop) (w0 : World) (n : Nat) (l : List Oper) (ds : List Deferred) (σ : Env) (V : VL) (η : Heap) : List Nat → Prop
  | [] => True
  | k :: r => (∃ u, vget V k = some u ∧ QSV F P S w0 n l ds σ V η k u) ∧ KeepQ F P S w0 n l ds σ V η r
theorem KeepQ.get : ∀ {ks : List Nat}, KeepQ F P S w0 n l ds σ V η ks → ∀ k ∈ ks, ∀ u, vget V k = some u → QSV F P S w0 n l ds σ V η k u
  | [], _, k, h, _, _ => by simp at h
  | k0 :: r, h, k, hk, u, hu => by
    rcases List.mem_cons.1 hk with e | hk
    · subst e
      obtain ⟨u', h1, h2⟩ := h.1
      rw [hu] at h1; cases h1; exact h2
    · exact KeepQ.get h.2 k hk u hu
def putO : Option Nat → Value → Env → Env
  | some d, v, σ => (d, v) :: σ
  | none, _, σ => σ
def QBK (F : Fence) (P : Program) (S : Nat → Prop) (w0 : World) (n : Nat) (l : List Oper) (ds : List Deferred) (σ : Env) (Q : Exit → Act → World → Prop) (m : Nat) (V : VL) (h : Nat) (od : Option Nat) (ks : List Nat) (σ' : Env) : Exit → Act → World → Prop
  | .normal, a, w => ∃ v η', Kn n ds (putO od v σ') a ∧ Hp S w0 η' w ∧ KeepQ F P S w0 n l ds σ V η' ks ∧ DH F P S w0 n l ds σ Q m ((h, v, 2) :: keepV ks V) η'
  | e, a, w => Q e a w
theorem TL.finK {h d : Nat} {σ' : Env} {v : Value} {ops : Array Oper} {ks : List Nat} (hq : KeepQ F P S w0 n l ds σ V η ks) (hd : DH F P S w0 n l ds σ Q m ((h, v, 2) :: keepV ks V) η) : TL F P S w0 n ops (QBK F P S w0 n l ds σ Q m V h (some d) ks σ') [] ds ((d, v) :: σ') η := TL.nil fun _ _ hk hh => ⟨v, η, hk, hh, hq, hd⟩
theorem TL.finKN {h : Nat} {σ' : Env} {ops : Array Oper} {ks : List Nat} (hq : KeepQ F P S w0 n l ds σ V η ks) (hd : DH F P S w0 n l ds σ Q m ((h, undef, 2) :: keepV ks V) η) : TL F P S w0 n ops (QBK F P S w0 n l ds σ Q m V h none ks σ') [] ds σ' η := TL.nil fun _ _ hk hh => ⟨undef, η, hk, hh, hq, hd⟩
/-- A heavy operation that may come next. -/
def HBK (F : Fence) (P : Program) (S : Nat → Prop) (w0 : World) (n : Nat) (l : List Oper) (ds : List Deferred) (σ : Env) (Q : Exit → Act → World → Prop) (m : Nat) (V : VL) (η : Heap) (h : Nat) : Prop :=
  ∃ ks o env, l[h]? = some o ∧ Nat.blt h m = true ∧ vget V h = none ∧ EnvOkV l σ V h env ∧ readersOkK l V h ks = true ∧ ∀ ext : Env, TL F P S w0 n l.toArray (QBK F P S w0 n l ds σ Q m V h o.dst ks (envs env ++ ext)) [o] ds (envs env ++ ext) η
theorem HBK.mk {h : Nat} (ks : List Nat) (env : List (Nat × Value × Option Nat)) {o : Oper} (ho : l[h]? = some o) (him : Nat.blt h m = true) (hnew : vget V h = none) (he : EnvOkV l σ V h env) (hrd : readersOkK l V h ks = true)
    (hop : ∀ ext : Env, TL F P S w0 n l.toArray (QBK F P S w0 n l ds σ Q m V h o.dst ks (envs env ++ ext)) [o] ds (envs env ++ ext) η) : HBK F P S w0 n l ds σ Q m V η h := ⟨ks, o, env, ho, him, hnew, he, hrd, hop⟩
/-- A node: the heavy operations that may come next. -/
theorem DH.nodeK (hs : List Nat) (hd : dagOk l = true) (ht : tailOk l m = true) (hq : dstsOk l m = true) (hcomp : complete l m V hs = true) (hbr : ∀ h ∈ hs, HBK F P S w0 n l ds σ Q m V η h) (hne : hs ≠ []) : DH F P S w0 n l ds σ Q m V η := by
  have hleaf : (∀ i, i < m → (vget V i).isSome = true) → TL F P S w0 n l.toArray Q (l.drop m) ds (allEnvV l V σ) η := fun ha => by
    cases hs with
    | nil => exact absurd rfl hne
    | cons h r =>
      obtain ⟨_, _, _, _, him, hnew, _⟩ := hbr h List.mem_cons_self
      exact not_all him hnew ha
  intro hn h0 h1 hk
  have hml : m ≤ l.length := by
    simp only [dstsOk, Bool.and_eq_true] at hq
    exact Nat.le_of_ble_eq_true hq.1
  have hdom : ∀ j, (vget V j).isSome = true → j < m := by
    intro j hj
    cases hv : vget V j with
    | none => simp [hv] at hj
    | some u => obtain ⟨k, hm⟩ := vget_mem hv; exact (hk j u k hm).1
  have last : ∀ (f : Nat) (L : Array Bool) (a : Act) (w : World), L.toList.countP (· == false) = f → InvD S w0 n l ds σ V η L a w → (∀ k, k < m → L[k]? = some true) → wpAnyIn F 0 P .any l.toArray Q f L a w := by
    intro f L a w hc hi hall
    have hsz := hi.size
    have hLq : ∀ k, L[k]? = some true → k < m := fun k hk' => hdom k (hi.dom k hk')
    have hL : ∀ j, j < l.length → L[j]? = some (decide (j < m)) := fun j hj => by
      by_cases h1 : j < m
      · rw [hall j h1]; simp [h1]
      · have hj' : j < L.size := by omega
        have : L[j]? ≠ some true := fun e => h1 (hLq j e)
        simp only [hj', Array.getElem?_eq_getElem] at this ⊢
        cases h4 : L[j] with
        | true => rw [h4] at this; exact absurd rfl this
        | false => simp [h1]
    have hLeq : L.toList = List.replicate m true ++ List.replicate (l.length - m) false := by
      apply List.ext_getElem?
      intro j
      rw [Array.getElem?_toList]
      by_cases hj : j < l.length
      · rw [hL j hj]
        by_cases h1 : j < m
        · rw [List.getElem?_append_left (by simpa using h1)]; simp [h1]
        · rw [List.getElem?_append_right (by simpa using h1)]
          rw [List.getElem?_replicate, List.length_replicate, if_pos (by omega)]
          simp [h1]
      · rw [Array.getElem?_eq_none (by omega), List.getElem?_eq_none (by simp; omega)]
    have hf : m + f = l.length := by
      rw [hLeq] at hc
      simp [List.countP_append, List.countP_replicate] at hc
      omega
    refine any_tail hd ht f m L a w hf (Nat.le_refl _) hsz hL (hleaf (fun i him => hi.dom i (hall i him)) a w ⟨hi.tsize, hi.defers, fun t v htv => ?_⟩ hi.hp)
    have hmem : ∀ t v, (t, v) ∈ (V.filterMap fun x => (dstOf l x.1).map fun d => (d, x.2.1)) → ∃ i, vget V i = some v ∧ dstOf l i = some t := by
      intro t v h
      obtain ⟨⟨i, u, k⟩, h1, h2⟩ := List.mem_filterMap.1 h
      simp only [Option.map_eq_some_iff, Prod.mk.injEq] at h2
      obtain ⟨d, hd, rfl, rfl⟩ := h2
      exact ⟨i, mem_vget hn h1, hd⟩
    rcases lk_append htv with h5 | ⟨h5, h6⟩
    · obtain ⟨i, h3, h4⟩ := hmem t v (lk_mem h5)
      exact hi.new i v t (hall i (hdom i (by rw [h3]; rfl))) h3 h4
    · refine hi.old t v h6 fun k hk1 hk2 => ?_
      have hkv := hi.dom k hk1
      cases hv : vget V k with
      | none => simp [hv] at hkv
      | some u =>
        obtain ⟨kk, hm⟩ := vget_mem hv
        refine lk_none h5 u (List.mem_filterMap.2 ⟨(k, u, kk), hm, by simp [hk2]⟩)
  intro f
  induction f with
  | zero =>
    intro L a w hc hi
    refine last 0 L a w hc hi (fun j hj => ?_)
    have hsz := hi.size
    have hj' : j < L.size := by omega
    rw [List.countP_eq_zero] at hc
    have := hc L[j] (by simp)
    simp at this
    simp [hj', this]
  | succ f ih =>
    intro L a w hc hi
    have hsz := hi.size
    by_cases hall : ∀ k, k < m → L[k]? = some true
    · exact last (f + 1) L a w hc hi hall
    · simp only [Classical.not_forall] at hall
      obtain ⟨j, hj, hjn⟩ := hall
      have hjL : L[j]? = some false := by
        have hj' : j < L.size := by omega
        simp only [hj', Array.getElem?_eq_getElem] at hjn ⊢
        cases h4 : L[j] with
        | true => rw [h4] at hjn; exact absurd rfl hjn
        | false => rfl
      refine ⟨fun he => by
        obtain ⟨i, hi'⟩ := ready_ex hd hsz j hjL
        rw [he] at hi'; simp at hi', fun i hir => ?_⟩
      obtain ⟨hLi, hready⟩ := mem_ready hsz hir
      have hilt := (Array.getElem?_eq_some_iff.1 hLi).1
      have him : i < m := by
        rcases Nat.lt_or_ge i m with h3 | h3
        · exact h3
        · have : L[j]? = some true := by
            simp only [tailOk, List.all_eq_true, List.mem_range, Bool.or_eq_true] at ht
            rcases ht i (by omega) with h4 | h4
            · have : i < m := Nat.le_of_ble_eq_true h4
              omega
            · rcases h4 j (by omega) with h5 | h5
              · exact hready j h5
              · exact waitsT_done hi.down _ i j hready h5
          rw [hjL] at this; cases this
      have hcnt : (L.setIfInBounds i true).toList.countP (· == false) = f := by
        rw [Array.toList_setIfInBounds, List.countP_set (by simpa using hilt)]
        have h7 : L.toList[i]'(by simpa using hilt) = false := by
          have := (Array.getElem?_eq_some_iff.1 hLi).2
          simpa using this
        rw [h7, hc]; simp
      simp only [complete, List.all_eq_true, List.mem_range, Bool.or_eq_true] at hcomp
      rcases hcomp i him with (hv | hv) | hv
      · -- a quiet one
        cases hvi : vget V i with
        | none => simp [hvi] at hv
        | some v =>
          obtain ⟨k, hmem⟩ := vget_mem hvi
          have hqs : QSV F P S w0 n l ds σ V η i v := by
            rcases (hk i v k hmem).2 with e | e | e
            · subst e; exact h0 i v hmem η
            · subst e; exact h1 i v hmem
            · subst e; have := hi.done i v hmem; rw [hLi] at this; cases this
          obtain ⟨o, d, env, ho, hod, henv, hop⟩ := hqs
          have hdi : dstOf l i = some d := by simp [dstOf, ho, hod]
          obtain ⟨hrun, hfr⟩ := run_one (d := d) (QO := fun σ' => Fin S w0 n ds η ((d, v) :: σ')) hi hLi hready ho henv hop
          refine wpOpIn_monoQ (fun a' w' hx => ?_) (fun e a' w' hne hx => by cases e <;> first | exact absurd rfl hne | exact hx.elim) hrun
          obtain ⟨hk', hh'⟩ := (show Kn n ds ((d, v) :: (envs env ++ fullEnv a)) a' ∧ Hp S w0 η w' from hx)
          exact ih _ a' w' hcnt (hi.put hq him hLi hready (fun _ _ h => h) (fun _ _ _ h => h) hvi hdom hdi (fun j u hm => .inr (hi.done j u hm)) hk'.size hk'.defers (hfr v a' hk').1 (hfr v a' hk').2 hh')
      · -- a heavy one
        have hih : i ∈ hs := by
          obtain ⟨x, hx, he⟩ := List.any_eq_true.1 hv
          have : i = x := Nat.eq_of_beq_eq_true he
          rw [this]; exact hx
        obtain ⟨ks, o, env, ho, _, hnew, henv, hrd, hop⟩ := hbr i hih
        have hext : ∀ (v : Value) j u, vget V j = some u → vget ((i, v, 2) :: keepV ks V) j = some u := by
          intro v j u hj
          rw [vget_cons, vget_keep]
          by_cases e : i = j
          · subst e; rw [hnew] at hj; cases hj
          · rw [if_neg e]; exact hj
        have hex : ∀ j u k, (j, u, k) ∈ keepV ks V → ∃ k0, (j, u, k0) ∈ V ∧ ((k0 = 1 ∧ j ∈ ks ∧ k = 1) ∨ (k0 = 1 ∧ j ∉ ks ∧ k = 2) ∨ (k0 ≠ 1 ∧ k = k0)) := by
          intro j u k hm
          obtain ⟨⟨j0, u0, k0⟩, hx0, he⟩ := List.mem_map.1 hm
          simp only [Prod.mk.injEq] at he
          obtain ⟨rfl, rfl, hke⟩ := he
          refine ⟨k0, hx0, ?_⟩
          by_cases e : k0 = 1
          · subst e
            rw [show Nat.beq 1 1 = true from rfl, cond_true] at hke
            cases hin : inL j0 ks with
            | true => rw [hin] at hke; left; exact ⟨rfl, inL_iff.1 hin, hke.symm⟩
            | false =>
              rw [hin] at hke; right; left
              exact ⟨rfl, (fun h => by rw [inL_iff.2 h] at hin; cases hin), hke.symm⟩
          · right; right
            have : Nat.beq k0 1 = false := by
              cases hb : Nat.beq k0 1
              · rfl
              · exact absurd (Nat.eq_of_beq_eq_true hb) e
            rw [this] at hke; exact ⟨e, hke.symm⟩
        have hmapf : (keepV ks V).map (·.1) = V.map (·.1) := by simp [keepV, Function.comp_def]
        have fin : ∀ (v : Value) (η' : Heap) (a' : Act) (w' : World), KeepQ F P S w0 n l ds σ V η' ks → DH F P S w0 n l ds σ Q m ((i, v, 2) :: keepV ks V) η' → InvD S w0 n l ds σ ((i, v, 2) :: keepV ks V) η' (L.setIfInBounds i true) a' w' → wpAnyIn F 0 P .any l.toArray Q f (L.setIfInBounds i true) a' w' := by
          intro v η' a' w' hkq hdh hinv
          refine hdh ?_ ?_ ?_ ?_ f _ a' w' hcnt hinv
          · rw [List.map_cons, hmapf]
            refine List.nodup_cons.2 ⟨fun hm => ?_, hn⟩
            obtain ⟨⟨j0, u0, k0⟩, hx0, he⟩ := List.mem_map.1 hm
            simp only at he; subst he
            have := mem_vget hn hx0
            rw [hnew] at this; cases this
          · intro j u hm η2
            rcases List.mem_cons.1 hm with e | hm
            · cases e
            · obtain ⟨k0, hx0, h2 | h2 | h2⟩ := hex j u 0 hm
              · exact absurd h2.2.2 (by decide)
              · exact absurd h2.2.2 (by decide)
              · rw [← h2.2] at hx0; exact (h0 j u hx0 η2).ext (hext v)
          · intro j u hm
            rcases List.mem_cons.1 hm with e | hm
            · cases e
            · obtain ⟨k0, hx0, h2 | h2 | h2⟩ := hex j u 1 hm
              · exact (hkq.get j h2.2.1 u (mem_vget hn hx0)).ext (hext v)
              · exact absurd h2.2.2 (by decide)
              · exact absurd h2.2.symm h2.1
          · intro j u k hm
            rcases List.mem_cons.1 hm with e | hm
            · cases e; exact ⟨him, .inr (.inr rfl)⟩
            · obtain ⟨k0, hx0, h2 | h2 | h2⟩ := hex j u k hm
              · exact ⟨(hk j u k0 hx0).1, .inr (.inl h2.2.2)⟩
              · exact ⟨(hk j u k0 hx0).1, .inr (.inr h2.2.2)⟩
              · rw [h2.2]; exact hk j u k0 hx0
        have hV' : ∀ (v : Value) j u, j ≠ i → vget ((i, v, 2) :: keepV ks V) j = some u → vget V j = some u := by
          intro v j u hji hv2
          rw [vget_cons, if_neg (fun e => hji e.symm), vget_keep] at hv2; exact hv2
        have hdn : ∀ (v : Value) j u, (j, u, 2) ∈ (i, v, 2) :: keepV ks V → j = i ∨ L[j]? = some true := by
          intro v j u hm
          rcases List.mem_cons.1 hm with e | hm
          · cases e; exact .inl rfl
          · obtain ⟨k0, hx0, h2 | h2 | h2⟩ := hex j u 2 hm
            · exact absurd h2.2.2 (by decide)
            · right
              simp only [readersOkK, List.all_eq_true] at hrd
              have h3 := hrd (j, u, k0) hx0
              simp only [h2.1, Bool.or_eq_true, Bool.not_eq_true', inL_iff] at h3
              rcases h3 with (h3 | h3) | h3 | h3
              · simp at h3
              · exact absurd h3 h2.2.1
              · exact hready j h3
              · exact waitsT_done hi.down _ i j hready h3
            · right; rw [← h2.2] at hx0; exact hi.done j u hx0
        cases hod : o.dst with
        | some d =>
          rw [hod] at hop
          have hdi : dstOf l i = some d := by simp [dstOf, ho, hod]
          obtain ⟨hrun, hfr⟩ := run_one (d := d) (QO := fun σ' => QBK F P S w0 n l ds σ Q m V i (some d) ks σ') hi hLi hready ho henv hop
          refine wpOpIn_monoQ (fun a' w' hx => ?_) (fun e a' w' hne hx => by cases e <;> first | exact absurd rfl hne | exact hx) hrun
          obtain ⟨v, η', hk', hh', hkq, hdh⟩ := (show ∃ v η', Kn n ds ((d, v) :: (envs env ++ fullEnv a)) a' ∧ Hp S w0 η' w' ∧ KeepQ F P S w0 n l ds σ V η' ks ∧ DH F P S w0 n l ds σ Q m ((i, v, 2) :: keepV ks V) η' from hx)
          exact fin v η' a' w' hkq hdh (hi.put hq him hLi hready (hext v) (hV' v) (by rw [vget_cons, if_pos rfl]) hdom hdi (hdn v) hk'.size hk'.defers (hfr v a' hk').1 (hfr v a' hk').2 hh')
        | none =>
          rw [hod] at hop
          have hdi : dstOf l i = none := by simp [dstOf, ho, hod]
          obtain ⟨hrun, hfr⟩ := run_oneN (QO := fun σ' => QBK F P S w0 n l ds σ Q m V i none ks σ') hi hLi hready ho henv hop
          refine wpOpIn_monoQ (fun a' w' hx => ?_) (fun e a' w' hne hx => by cases e <;> first | exact absurd rfl hne | exact hx) hrun
          obtain ⟨v, η', hk', hh', hkq, hdh⟩ := (show ∃ v η', Kn n ds (envs env ++ fullEnv a) a' ∧ Hp S w0 η' w' ∧ KeepQ F P S w0 n l ds σ V η' ks ∧ DH F P S w0 n l ds σ Q m ((i, v, 2) :: keepV ks V) η' from hx)
          exact fin v η' a' w' hkq hdh (hi.putN hLi hready (hext v) (hV' v) (by rw [vget_cons, if_pos rfl]; rfl) hdi (hdn v) hk'.size hk'.defers (hfr a' hk') hh')
      · -- it waits for what is not known
        exfalso
        simp only [List.any_eq_true, List.mem_range, Bool.and_eq_true, Bool.or_eq_true] at hv
        obtain ⟨j2, hj2, hnone, hw⟩ := hv
        have hLj : L[j2]? = some true := by
          rcases hw with h5 | h5
          · exact hready j2 h5
          · exact waitsT_done hi.down _ i j2 hready h5
        have := hi.dom j2 hLj
        cases hvv : vget V j2 with
        | none => simp [hvv] at this
        | some u => simp [hvv] at hnone
theorem DH.k1 {h1 : Nat} (hd : dagOk l = true) (ht : tailOk l m = true) (hq : dstsOk l m = true) (hcomp : complete l m V [h1] = true) (b1 : HBK F P S w0 n l ds σ Q m V η h1) : DH F P S w0 n l ds σ Q m V η :=
  DH.nodeK [h1] hd ht hq hcomp (fun h' hh => by rw [List.mem_singleton.1 hh]; exact b1) (by simp)
theorem DH.k2 {h1 h2 : Nat} (hd : dagOk l = true) (ht : tailOk l m = true) (hq : dstsOk l m = true) (hcomp : complete l m V [h1, h2] = true) (b1 : HBK F P S w0 n l ds σ Q m V η h1) (b2 : HBK F P S w0 n l ds σ Q m V η h2) : DH F P S w0 n l ds σ Q m V η :=
  DH.nodeK [h1, h2] hd ht hq hcomp (fun h' hh => by
    rcases List.mem_cons.1 hh with e | hh
    · subst e; exact b1
    · rw [List.mem_singleton.1 hh]; exact b2) (by simp)
theorem DH.k3 {h1 h2 h3 : Nat} (hd : dagOk l = true) (ht : tailOk l m = true) (hq : dstsOk l m = true) (hcomp : complete l m V [h1, h2, h3] = true) (b1 : HBK F P S w0 n l ds σ Q m V η h1) (b2 : HBK F P S w0 n l ds σ Q m V η h2) (b3 : HBK F P S w0 n l ds σ Q m V η h3) : DH F P S w0 n l ds σ Q m V η :=
  DH.nodeK [h1, h2, h3] hd ht hq hcomp (fun h' hh => by
    rcases List.mem_cons.1 hh with e | hh
    · subst e; exact b1
    · rcases List.mem_cons.1 hh with e | hh
      · subst e; exact b2
      · rw [List.mem_singleton.1 hh]; exact b3) (by simp)
end
end Go.Sl
/- The end of a function whose results lie in slots and in memory. -/
namespace Go.Sl
variable {F : Fence} {P : Program} {S : Nat → Prop} {w0 w : World} {n : Nat} {Q : Exit → Act → World → Prop} {ds : List Deferred} {σ : Env} {η : Heap}

/-- What a result variable holds. -/
def ResV (P : Program) (S : Nat → Prop) (w0 : World) (η : Heap) (σ : Env) : ResultVar → Value → Prop
  | .tmp t, v => lk σ t = some v
  | .cell c ct, v => ∃ b, lk σ c = some (.pointer (some ⟨b, 0, none⟩)) ∧ ∀ w, Hp S w0 η w → (loadVar ct ⟨b, 0, none⟩).run P w = .ok v w
def ResVs (P : Program) (S : Nat → Prop) (w0 : World) (η : Heap) (σ : Env) : List ResultVar → List Value → Prop
  | [], [] => True
  | r :: rs, v :: vs => ResV P S w0 η σ r v ∧ ResVs P S w0 η σ rs vs
  | _, _ => False
theorem ResV.tmp {t : Nat} {v : Value} (h : lk σ t = some v) : ResV P S w0 η σ (.tmp t) v := h
theorem ResV.one {c : Nat} {ct : TypeId} [Ag P ct false] {b : Nat} {x : Value} (hc : lk σ c = some (.pointer (some ⟨b, 0, none⟩))) (hx : At S w0 η ⟨b, 0, none⟩ x) : ResV P S w0 η σ (.cell c ct) x :=
  ⟨b, hc, fun _ hh => run_loadVar1 (hx.cell hh)⟩
theorem ResV.agg {c : Nat} {ct : TypeId} [Ag P ct true] {z : Value} {sz bt : Nat} [Inf P ct z sz bt] (cs : List Value) {b : Nat} (hc : lk σ c = some (.pointer (some ⟨b, 0, none⟩))) (hl : cs.length = sz) (hv : ∀ i v, cs[i]? = some v → At S w0 η ⟨b, 0 + i, none⟩ v) :
    ResV P S w0 η σ (.cell c ct) (.agg cs.toArray) :=
  ⟨b, hc, fun w hh => by simp [loadVar, Ag.eq (t := ct) (b := true), run_sizeOf (t := ct) (z := z) (sz := sz) (bt := bt), run_loadCells hl hv hh]⟩
theorem results_x {fn : Func} {rs : List ResultVar} {vs : List Value} (hr : fn.results = rs.toArray) {a : Act} (hk : Kn n ds σ a) (hh : Hp S w0 η w) (hv : ResVs P S w0 η σ rs vs) : (results fn a.tmps).run P w = .ok (retVal vs) w := by
  have key : ∀ (f : ResultVar → Sem Value), (∀ t, f (.tmp t) = pure (a.tmps.getD t undef)) → (∀ c ct b v, lk σ c = some (.pointer (some ⟨b, 0, none⟩)) → (loadVar ct ⟨b, 0, none⟩).run P w = .ok v w → (f (.cell c ct)).run P w = .ok v w) → ∀ (rs : List ResultVar) (vs : List Value), ResVs P S w0 η σ rs vs → (rs.mapM f).run P w = .ok vs w := by
    intro f hf hfc rs
    induction rs with
    | nil => intro vs hv; cases vs with
      | nil => simp
      | cons v vs => exact hv.elim
    | cons r rs ih =>
      intro vs hv
      cases vs with
      | nil => exact hv.elim
      | cons v vs =>
        have h2 := ih vs hv.2
        cases r with
        | tmp t =>
          have h1 := hk.slot _ _ hv.1
          simp only [List.mapM_cons, Sem.run_bind, hf, Sem.run_pure, Result.andThen_ok, h2]
          simp [Array.getD_eq_getD_getElem?, h1]
        | cell c ct =>
          obtain ⟨b, hb1, hb2⟩ := hv.1
          simp only [List.mapM_cons, Sem.run_bind, hfc c ct b v hb1 (hb2 w hh), Sem.run_pure, Result.andThen_ok, h2]
  unfold results
  rw [hr, Array.mapM_eq_mapM_toList]
  simp only [Sem.run_bind, Sem.run_map]
  rw [key _ (fun t => rfl) (fun c ct b v h1 h2 => by simp [Array.getD_eq_getD_getElem?, hk.slot _ _ h1, asAddr, h2]) rs vs hv]
  simp only [Result.andThen_ok, Sem.run_pure]
  exact congrArg (fun z => Result.ok z w) (retVal_eq _)
/-- The end of a function: results in slots, and in memory. -/
theorem TQ.retX {fn : Func} (rs : List ResultVar) (vs : List Value) {v : Value} {R : Value → Heap → Prop} (η2 : Heap) (hr : fn.results = rs.toArray) (hv : ResVs P S w0 η σ rs vs) (he : retVal vs = v) (hs : η2.Sublist η) (hR : R v η2) : TQ S w0 n (bodyPost P fn (post R S w0) .ret) [] σ η :=
  fun a w hk hh => ⟨hk.defers, v, by rw [results_x hr hk hh hv, he], _, η2, rfl, hh.seg hs, hR⟩
theorem TQ.retXE {fn : Func} (rs : List ResultVar) (vs : List Value) {v : Value} {R : Value → Heap → Prop} {E : List PanicEntry → Heap → Prop} (η2 : Heap) (hr : fn.results = rs.toArray) (hv : ResVs P S w0 η σ rs vs) (he : retVal vs = v) (hs : η2.Sublist η) (hR : R v η2) : TQ S w0 n (bodyPost P fn (postE R E S w0) .ret) [] σ η :=
  fun a w hk hh => ⟨hk.defers, v, by rw [results_x hr hk hh hv, he], .inl ⟨_, η2, rfl, hh.seg hs, hR⟩⟩
end Go.Sl
/- What is left of a list behind a cut. -/
namespace Go.Sl
variable {S : Nat → Prop} {w0 : World} {η : Heap}
theorem Row.cut {a : Option Addr} {cs : List Value} {k cap sz : Nat} (h : Row S w0 η a cs) (hc : cs.length ≤ cap * sz) : Row S w0 η (if cap = k then a else a.map (·.add (k * sz))) (cs.drop (k * sz)) := by
  by_cases e : cap = k
  · rw [if_pos e, List.drop_eq_nil_of_le (by rw [← e]; exact hc)]
    exact ⟨fun h => by simp at h, fun i v h => by simp at h⟩
  · rw [if_neg e]
    by_cases hl : k * sz < cs.length
    · obtain ⟨ad, rfl, hs⟩ := h.ad (by omega)
      obtain ⟨b, o, s⟩ := ad
      simp only at hs; subst hs
      have ea : (⟨b, o, none⟩ : Addr).add (k * sz) = ⟨b, o + k * sz, none⟩ := by
        unfold Addr.add; split
        · rename_i h0; rw [h0]; rfl
        · rfl
      refine ⟨fun _ => ⟨_, rfl, by simp only [ea]⟩, fun i v hi => ?_⟩
      rw [List.getElem?_drop] at hi
      have := h.cell _ v hi
      simp only [Option.map_some, ea]
      simpa [sAt, Nat.add_assoc] using this
    · rw [List.drop_eq_nil_of_le (by omega)]
      exact ⟨fun h => by simp at h, fun i v h => by simp at h⟩
theorem flat_drop {α : Type} {c : Nat} {f : α → List Value} (hf : ∀ x, (f x).length = c) : ∀ (l : List α) (k : Nat), (l.flatMap f).drop (k * c) = (l.drop k).flatMap f
  | [], k => by simp
  | x :: r, 0 => by simp
  | x :: r, k + 1 => by
    rw [List.flatMap_cons, List.drop_succ_cons, ← flat_drop hf r k, Nat.add_mul, Nat.one_mul, Nat.add_comm, ← List.drop_drop, List.drop_left' (hf x)]
theorem Row.cutF {α : Type} {c : Nat} {f : α → List Value} (hf : ∀ x, (f x).length = c) {a : Option Addr} {l : List α} {k cap : Nat} (h : Row S w0 η a (l.flatMap f)) (hc : l.length ≤ cap) : Row S w0 η (if cap = k then a else a.map (·.add (k * c))) ((l.drop k).flatMap f) := by
  rw [← flat_drop hf]
  refine h.cut ?_
  have : (l.flatMap f).length = l.length * c := by
    clear h hc
    induction l with
    | nil => simp
    | cons x r ih => rw [List.flatMap_cons, List.length_append, hf, ih, List.length_cons, Nat.add_mul]; omega
  rw [this]; exact Nat.mul_le_mul_right _ hc
theorem frz_mk2 {w : World} {ηr : Heap} (hh : Hp S w0 (ηr ++ η) w) : ∃ S', Frz S S' w0 w ηr ∧ Hp S' w η w ∧ ∀ η' a v, At S' w η' a v → At S w0 (ηr ++ η') a v := by
  obtain ⟨h1, h2⟩ := frz_mk hh
  refine ⟨_, h1, h2, fun η' a v h => ?_⟩
  cases h with
  | rd h hc =>
    rcases h with h | h
    · refine .rd h ?_
      have := (hh.same _ h).2
      simp only [World.cell?, this] at hc ⊢
      exact hc
    · obtain ⟨p, hp, he⟩ := List.mem_map.1 h
      have h3 := (hh.own p (by rw [List.flatten_append, List.mem_append]; exact .inl hp)).1
      obtain ⟨seg, hs, hps⟩ := List.mem_flatten.1 hp
      rw [he] at h3
      have hsp := (cell_lt hc).2
      unfold World.cell? at hc
      rw [h3] at hc
      obtain ⟨pb, po⟩ := p
      simp only at he hc; subst he
      cases po with
      | cells cs e fz =>
        simp only [hsp] at hc
        exact .own seg (List.mem_append_left _ hs) cs e fz hps (by simpa using hc) hsp
      | _ => simp at hc
  | own seg hs cs e fz hp hc hsp => exact .own seg (List.mem_append_right _ hs) cs e fz hp hc hsp
/-- A contract whose arguments lie in read memory, where they lie in blocks of one's own. -/
theorem Rt.frame {P : Program} {g : FuncId} {args : Array Value} {R : Value → Heap → Prop} (ηr : Heap) {η2 : Heap} (he : η = ηr ++ η2)
    (h : ∀ S' w1, Frz S S' w0 w1 ηr → (∀ η' a v, At S' w1 η' a v → At S w0 (ηr ++ η') a v) → Rt P g args S' w1 η2 (fun v η' => R v (ηr ++ η'))) : Rt P g args S w0 η R := fun w hh => by
  subst he
  obtain ⟨S', hz, h2, h3⟩ := frz_mk2 hh
  exact (h _ _ hz h3 w h2).mono fun e w' ⟨v, η', h1, h2, h3⟩ => ⟨v, ηr ++ η', h1, hz.back _ _ h2, h3⟩
theorem Row.thaw {S' : Nat → Prop} {w1 : World} {ηr η' : Heap} {a : Option Addr} {cs : List Value} (hb : ∀ η' a v, At S' w1 η' a v → At S w0 (ηr ++ η') a v) (h : Row S' w1 η' a cs) : Row S w0 (ηr ++ η') a cs := ⟨h.ad, fun i v hi => hb _ _ _ (h.cell i v hi)⟩
end Go.Sl
/- make of a slice of elements of any size. -/
namespace Go.Sl
variable {S : Nat → Prop} {w0 : World} {η : Heap}
section
variable {F : Fence} {P : Program} {w : World} {n : Nat} {Q : Exit → Act → World → Prop} {ds : List Deferred} {σ : Env} {ops : Array Oper} {d : Nat} {ty : TypeId} {pos : String} {af : Array Edge} {rest : List Oper}
/-- make of a slice of elements of any size. -/
theorem TL.makeSliceN (hF : Open F) {t e : TypeId} [Und P t (.slice e)] {z : Value} {sz bt : Nat} [Inf P e z sz bt] {x y : Operand} {k : Nat} (hx : ev σ x = some (.int .i64 (k : Int))) (hy : ev σ y = some (.int .i64 (k : Int))) (cs : List Value) (hcs : ((Array.range (k * sz)).map fun i => z.cells[i % z.cells.size]!) = cs.toArray) (hk0 : 0 < k) (hsz : 0 < sz) (hb : k * bt ≤ 281474976710656) (hk : k ≤ 4611686018427387904) (hn : Nat.blt d n = true)
    (h : ∀ b, TL F P S w0 n ops Q rest ds ((d, .slice (some ⟨b, 0, none⟩) k k) :: σ) ([(b, .cells cs.toArray e (0, 0))] :: η)) :
    TL F P S w0 n ops Q (⟨some d, .makeSlice t x y, ty, pos, af, none⟩ :: rest) ds σ η :=
  TL.val hF (by intro c; simp) hn fun a w hkn hh => by
    obtain ⟨inf, hinf, hiz, hisz, hibt⟩ := run_typeInfo (P := P) (t := e) (z := z) (sz := sz) (bt := bt)
    refine ⟨_, _, _, ?_, hh.alloc _, h _⟩
    have hw : IntKind.i64.wrap (k : Int) = k := wrap_i64 (by omega) (by omega)
    have hb' : ¬ ((281474976710656 : Int) < (bt : Int) * (k : Int)) := by
      have : ((k * bt : Nat) : Int) ≤ 281474976710656 := by omega
      rw [Int.natCast_mul, Int.mul_comm] at this
      omega
    have h0 : ¬ (k * sz = 0) := Nat.pos_iff_ne_zero.1 (Nat.mul_pos hk0 hsz)
    simp [execOp, Instr.makeSlice, hkn.ev hx, hkn.ev hy, run_underlying (t := t) (d := .slice e), asInt, asIntOf, hinf, hibt, hw, hb', run_sizeOf (t := e) (z := z) (sz := sz) (bt := bt), newRow, run_zeroValue (t := e) (z := z) (sz := sz) (bt := bt), h0, hcs, show ¬ ((k : Int) < 0) by omega]
end
end Go.Sl
/- What the walks of every seat use: lists of numbers, of truths, of structs, and of lists, in memory. -/
namespace Go.Proofs.YtefkmiomldhmjaaDoor
open Go.Sl
variable {S : Nat → Prop} {w0 : World} {η : Heap}
abbrev ptr (b : Nat) : Value := .pointer (some ⟨b, 0, none⟩)
theorem drop_step {α : Type} {l : List α} {k : Nat} (h : k < l.length) : l.drop k = l[k] :: l.drop (k + 1) := List.drop_eq_getElem_cons h
theorem not_mem_succ {xs : List Int} {n : Int} {k : Nat} (hk : k < xs.length) (h : n ∉ xs.take k) (hne : xs[k] ≠ n) : n ∉ xs.take (k + 1) := by
  rw [List.take_succ_eq_append_getElem hk]
  simp only [List.mem_append, List.mem_singleton, not_or]
  exact ⟨h, fun e => hne e.symm⟩
theorem take_succ_eq {α : Type} {xs ys : List α} {k : Nat} (h1 : k < xs.length) (h2 : k < ys.length) (h : xs.take k = ys.take k) (he : xs[k] = ys[k]) : xs.take (k + 1) = ys.take (k + 1) := by
  rw [List.take_succ_eq_append_getElem h1, List.take_succ_eq_append_getElem h2, h, he]
theorem ne_of_getElem {α : Type} {xs ys : List α} {k : Nat} (h1 : k < xs.length) (h2 : k < ys.length) (he : xs[k] ≠ ys[k]) : xs ≠ ys := fun e => he (by subst e; rfl)
def rowC (n : Nat) (f : Nat → Bool) : List Value := (List.range n).map fun j => .bool (f j)
theorem rowC_len (n : Nat) (f : Nat → Bool) : (rowC n f).length = n := by simp [rowC]
theorem rowC_get {n : Nat} {f : Nat → Bool} {j : Nat} (h : j < n) : (rowC n f)[j]? = some (.bool (f j)) := by simp [rowC, h]
theorem rowC_congr {n : Nat} {f g : Nat → Bool} (h : ∀ j, j < n → f j = g j) : rowC n f = rowC n g := by
  unfold rowC; apply List.map_congr_left; intro j hj; rw [h j (by simpa using hj)]
theorem rowC_false (n : Nat) : List.replicate n (Value.bool false) = rowC n fun _ => false := by
  apply List.ext_getElem?; intro i; simp [rowC]
  by_cases h : i < n
  · rw [List.getElem?_replicate_of_lt h]; simp [h]
  · simp [h]
theorem rowC_set {n : Nat} {f g : Nat → Bool} {j : Nat} {v : Bool} (h : ∀ i, i < n → g i = if i = j then v else f i) : (rowC n f).toArray.setIfInBounds j (.bool v) = (rowC n g).toArray := by
  apply Array.ext'
  simp only [Array.toList_setIfInBounds]
  apply List.ext_getElem?
  intro i
  rw [List.getElem?_set]
  by_cases hi : i < n
  · rw [rowC_get hi, rowC_get hi, h i hi]
    by_cases hj : j = i
    · subst hj; simp [rowC_len, hi]
    · simp [hj, Ne.symm hj]
  · have h1 : (rowC n f)[i]? = none := by simp [rowC]; omega
    have h2 : (rowC n g)[i]? = none := by simp [rowC]; omega
    rw [h1, h2]
    by_cases hj : j = i
    · subst hj; simp [rowC_len, hi]
    · simp [hj]
theorem row_own {b : Nat} {cs : List Value} {e : TypeId} (h : [(b, Obj.cells cs.toArray e (0, 0))] ∈ η) : Row S w0 η (some ⟨b, 0, none⟩) cs :=
  ⟨fun _ => ⟨_, rfl, rfl⟩, fun i v hi => .own _ h cs.toArray e (0, 0) (by simp [sAt]) (by simpa [sAt] using hi) (by simp [sAt])⟩
theorem own_mem {b : Nat} {cs : Array Value} {e : TypeId} {fz : Nat × Nat} {off : Nat} {v : Value} (h : [(b, Obj.cells cs e fz)] ∈ η) (hc : cs[off]? = some v) : At S w0 η ⟨b, off, none⟩ v := .own _ h cs e fz (by simp) hc rfl
def intC (n : Nat) (f : Nat → Int) : List Value := (List.range n).map fun j => .int .i64 (f j)
theorem intC_len (n : Nat) (f : Nat → Int) : (intC n f).length = n := by simp [intC]
theorem intC_get {n : Nat} {f : Nat → Int} {j : Nat} (h : j < n) : (intC n f)[j]? = some (.int .i64 (f j)) := by simp [intC, h]
theorem intC_congr {n : Nat} {f g : Nat → Int} (h : ∀ j, j < n → f j = g j) : intC n f = intC n g := by
  unfold intC; apply List.map_congr_left; intro j hj; rw [h j (by simpa using hj)]
theorem intC_zero (n : Nat) : List.replicate n (Value.int .i64 0) = intC n fun _ => 0 := by
  apply List.ext_getElem?; intro i; simp only [intC, List.getElem?_map]
  by_cases h : i < n
  · rw [List.getElem?_replicate_of_lt h]; simp [h]
  · simp [h]
theorem intC_set {n : Nat} {f g : Nat → Int} {j : Nat} {v : Int} (h : ∀ i, i < n → g i = if i = j then v else f i) : (intC n f).toArray.setIfInBounds j (.int .i64 v) = (intC n g).toArray := by
  apply Array.ext'
  simp only [Array.toList_setIfInBounds]
  apply List.ext_getElem?
  intro i
  rw [List.getElem?_set]
  by_cases hi : i < n
  · rw [intC_get hi, intC_get hi, h i hi]
    by_cases hj : j = i
    · subst hj; simp [intC_len, hi]
    · simp [hj, Ne.symm hj]
  · have h1 : (intC n f)[i]? = none := by simp [intC]; omega
    have h2 : (intC n g)[i]? = none := by simp [intC]; omega
    rw [h1, h2]
    by_cases hj : j = i
    · subst hj; simp [intC_len, hi]
    · simp [hj]
/-- An owned list of n numbers. -/
abbrev iseg (b n : Nat) (f : Nat → Int) : Seg := [(b, .cells (intC n f).toArray 3 (0, 0))]
theorem iseg_at {b n j : Nat} {f : Nat → Int} (h : iseg b n f ∈ η) (hj : j < n) : At S w0 η (sAt (some ⟨b, 0, none⟩) (j * 1)) (.int .i64 (f j)) := by
  rw [Nat.mul_one]; exact (row_own h).cell j _ (intC_get hj)
theorem iseg_set {b n j k : Nat} {f g : Nat → Int} {v : Int} {r : Heap} (hk : k = j) (h : ∀ i, i < n → g i = if i = j then v else f i) : [(b, Obj.cells ((intC n f).toArray.setIfInBounds k (.int .i64 v)) 3 (0, 0))] :: r = iseg b n g :: r := by
  subst hk; rw [intC_set h]
theorem iseg_congr {b n : Nat} {f g : Nat → Int} {r : Heap} (h : ∀ i, i < n → f i = g i) : iseg b n f :: r = iseg b n g :: r := by rw [iseg, iseg, intC_congr h]
theorem hp_at {A : Heap} {s : Seg} {r : Heap} {i : Nat} (h : i = A.length) : (A ++ s :: r)[i]? = some s := by
  subst h; rw [List.getElem?_append_right (Nat.le_refl _)]; simp
theorem hp_set {A : Heap} {s s' : Seg} {r : Heap} {i : Nat} (h : i = A.length) : (A ++ s :: r).set i s' = A ++ s' :: r := by
  subst h; rw [List.set_append_right _ _ (Nat.le_refl _)]; simp
theorem ints1 (xs : List Int) : ∀ v ∈ ints xs, v.oneCell' = true := by intro v hv; obtain ⟨b, _, rfl⟩ := List.mem_map.1 hv; rfl
theorem intC_ints (n : Nat) (f : Nat → Int) : intC n f = ints ((List.range n).map f) := by simp [intC, ints, Function.comp_def]
theorem rowC1 (N : Nat) (G : Nat → Bool) : ∀ v ∈ rowC N G, v.oneCell' = true := by intro v hv; obtain ⟨b, _, rfl⟩ := List.mem_map.1 hv; rfl
theorem intC1 (N : Nat) (G : Nat → Int) : ∀ v ∈ intC N G, v.oneCell' = true := by intro v hv; obtain ⟨b, _, rfl⟩ := List.mem_map.1 hv; rfl
theorem _root_.Go.Sl.Row.bit {a : Option Addr} {n : Nat} {g : Nat → Bool} (h : Row S w0 η a (rowC n g)) {j : Nat} (hj : j < n) : At S w0 η (sAt a (j * 1)) (.bool (g j)) := by rw [Nat.mul_one]; exact h.cell j _ (rowC_get hj)
theorem _root_.Go.Sl.Row.bad {a : Option Addr} {n : Nat} {g : Nat → Bool} (h : Row S w0 η a (rowC n g)) {j : Nat} (hj : j < n) : ∃ ad, a = some ad ∧ ad.spot = none := h.adi (i := j) (by rw [rowC_len]; exact hj)
theorem _root_.Go.Sl.Row.none : Row S w0 η none [] := ⟨fun h => by simp at h, fun i v h => by simp at h⟩
/-- An owned list of n truths. -/
abbrev bseg (b n : Nat) (f : Nat → Bool) : Seg := [(b, .cells (rowC n f).toArray 4 (0, 0))]
theorem bseg_at {b n j : Nat} {f : Nat → Bool} (h : bseg b n f ∈ η) (hj : j < n) : At S w0 η (sAt (some ⟨b, 0, none⟩) (j * 1)) (.bool (f j)) := by
  rw [Nat.mul_one]; exact (row_own h).cell j _ (rowC_get hj)
theorem bseg_set {b n j k : Nat} {f g : Nat → Bool} {v : Bool} {r : Heap} (hk : k = j) (h : ∀ i, i < n → g i = if i = j then v else f i) : [(b, Obj.cells ((rowC n f).toArray.setIfInBounds k (.bool v)) 4 (0, 0))] :: r = bseg b n g :: r := by
  subst hk; rw [rowC_set h]
theorem bseg_congr {b n : Nat} {f g : Nat → Bool} {r : Heap} (h : ∀ i, i < n → f i = g i) : bseg b n f :: r = bseg b n g :: r := by rw [bseg, bseg, rowC_congr h]
/-- A list of k cells, made at once, is an owned list. -/
theorem osl_fresh {e : TypeId} {sz n b : Nat} {xs : List Value} (h : xs.length = n * sz) : OSl e sz (.slice (some ⟨b, 0, none⟩) n n) n xs [(b, .cells xs.toArray e (0, 0))] :=
  ⟨h, .inr ⟨b, n, xs.toArray, rfl, rfl, Nat.le_refl _, by simp [h], by simp [← h]⟩⟩
/-! Lists of structs. -/
theorem sAt_add (a : Option Addr) (k i : Nat) : (⟨(sAt a k).block, (sAt a k).off + i, none⟩ : Addr) = sAt a (k + i) := by simp [sAt, Nat.add_assoc]
theorem _root_.Go.Sl.Row.tab {α : Type} {k : Nat} {f : α → List Value} (hf : ∀ x, (f x).length = k) {a : Option Addr} {l : List α} (h : Row S w0 η a (l.flatMap f)) {i : Nat} (hi : i < l.length) (j : Nat) {v : Value} (hj : (f l[i])[j]? = some v) : At S w0 η (sAt a (i * k + j)) v :=
  h.cell _ _ (by
    have hj4 : j < k := by have := (List.getElem?_eq_some_iff.1 hj).1; rw [hf] at this; exact this
    rw [flat_get k f hf l i j hj4, List.getElem?_eq_getElem hi]; exact hj)
theorem _root_.Go.Sl.Row.tabA {α : Type} {k : Nat} {f : α → List Value} (hf : ∀ x, (f x).length = k) {a : Option Addr} {l : List α} (h : Row S w0 η a (l.flatMap f)) {i : Nat} (hi : i < l.length) : ∀ j v, (f l[i])[j]? = some v → At S w0 η ⟨(sAt a (i * k)).block, (sAt a (i * k)).off + j, none⟩ v := fun j v hj => by
  rw [sAt_add]; exact h.tab hf hi j hj
theorem _root_.Go.Sl.Row.tad {α : Type} {k : Nat} {f : α → List Value} (hf : ∀ x, (f x).length = k) (hk : 0 < k) {a : Option Addr} {l : List α} (h : Row S w0 η a (l.flatMap f)) {i : Nat} (hi : i < l.length) : ∃ ad, a = some ad ∧ ad.spot = none := h.ad (by
  cases l with
  | nil => simp at hi
  | cons r rs => simp only [List.flatMap_cons, List.length_append, hf]; omega)
/-! Lists of lists. -/
def Lists (S : Nat → Prop) (w0 : World) (η : Heap) (a : Option Addr) (ls : List (List Int)) : Prop :=
  ∃ ps : List (Option Addr × Nat), ps.length = ls.length ∧ Row S w0 η a (List.zipWith (fun (p : Option Addr × Nat) (l : List Int) => Value.slice p.1 l.length p.2) ps ls) ∧ ∀ i (h1 : i < ps.length) (h2 : i < ls.length), Row S w0 η ps[i].1 (ints ls[i])
theorem Lists.item {a : Option Addr} {ls : List (List Int)} (h : Lists S w0 η a ls) : ∃ f : Nat → Option Addr × Nat, (∀ i (hi : i < ls.length), At S w0 η (sAt a (i * 1)) (.slice (f i).1 ls[i].length (f i).2) ∧ Row S w0 η (f i).1 (ints ls[i])) ∧ (∀ i, i < ls.length → ∃ ad, a = some ad ∧ ad.spot = none) := by
  obtain ⟨ps, hl, hr, hi⟩ := h
  refine ⟨fun i => ps.getD i (none, 0), fun i h1 => ?_, fun i h1 => hr.adi (i := i) (by simp; omega)⟩
  have h2 : i < ps.length := by omega
  refine ⟨?_, ?_⟩
  · rw [Nat.mul_one]; exact hr.cell i _ (by simp [List.getElem?_zipWith, List.getD_eq_getElem?_getD, h1, h2])
  · have := hi i h2 h1; simpa [List.getD_eq_getElem?_getD, h2] using this
theorem Lists.none : Lists S w0 η none [] := ⟨[], rfl, ⟨fun h => by simp at h, fun i v h => by simp at h⟩, fun i h => by simp at h⟩
theorem Lists.up {η' : Heap} {a : Option Addr} {ls : List (List Int)} (h : Lists S w0 η a ls) (hs : ∀ x ∈ η, x ∈ η') : Lists S w0 η' a ls := by
  obtain ⟨ps, h1, h2, h3⟩ := h
  exact ⟨ps, h1, h2.up hs, fun i a b => (h3 i a b).up hs⟩
theorem Lists.frz {S' : Nat → Prop} {w1 : World} {ηr : Heap} {a : Option Addr} {ls : List (List Int)} (h : Lists S w0 ηr a ls) (hz : Frz S S' w0 w1 ηr) : Lists S' w1 [] a ls := by
  obtain ⟨ps, h1, h2, h3⟩ := h
  exact ⟨ps, h1, h2.frz hz, fun i a b => (h3 i a b).frz hz⟩
theorem Lists.old {S' : Nat → Prop} {w1 : World} {ηr : Heap} {a : Option Addr} {ls : List (List Int)} (h : Lists S w0 [] a ls) (hz : Frz S S' w0 w1 ηr) : Lists S' w1 [] a ls := by
  obtain ⟨ps, h1, h2, h3⟩ := h
  exact ⟨ps, h1, h2.old hz, fun i a b => (h3 i a b).old hz⟩
/-- An owned list of owned lists: the outer block, and each inner list with its block. -/
structure OLs (e : TypeId) (v : Value) (outs : List (Value × List Int × Seg)) (og : Seg) : Prop where
  o : OSl e 1 v outs.length (outs.map (·.1)) og
  i : ∀ t ∈ outs, OSl 3 1 t.1 t.2.1.length (ints t.2.1) t.2.2
theorem OLs.lists {e : TypeId} {a : Option Addr} {c : Nat} {outs : List (Value × List Int × Seg)} {og : Seg} (h : OLs e (.slice a outs.length c) outs og) {η : Heap} (h1 : og ∈ η) (h2 : ∀ t ∈ outs, t.2.2 ∈ η) : Lists S w0 η a (outs.map (·.2.1)) := by
  refine ⟨outs.map fun t => match t.1 with | .slice a _ c => (a, c) | _ => (Option.none, 0), by simp, ?_, ?_⟩
  · have hr : Row S w0 η a (outs.map (·.1)) := h.o.row h1
    have e : List.zipWith (fun (p : Option Addr × Nat) (l : List Int) => Value.slice p.1 l.length p.2) (outs.map fun t => match t.1 with | .slice a _ c => (a, c) | _ => (Option.none, 0)) (outs.map (·.2.1)) = outs.map (·.1) := by
      rw [List.zipWith_map, List.zipWith_self]
      apply List.map_congr_left
      intro t ht
      obtain ⟨a, cap, hv⟩ := (h.i t ht).form
      simp [hv]
    rw [e]; exact hr
  · intro i h3 h4
    have hi : i < outs.length := by simpa using h3
    have ho := h.i outs[i] (List.getElem_mem hi)
    obtain ⟨a, cap, hv⟩ := ho.form
    simp only [List.getElem_map, hv]
    rw [hv] at ho
    exact ho.row (h2 _ (List.getElem_mem hi))
/-- A function, turned at one place. -/
def upd {α : Type} (f : Nat → α) (j : Nat) (v : α) (i : Nat) : α := if i = j then v else f i
theorem upd_same {α : Type} (f : Nat → α) (j : Nat) (v : α) : upd f j v j = v := by simp [upd]
theorem upd_ne {α : Type} (f : Nat → α) {j i : Nat} (v : α) (h : i ≠ j) : upd f j v i = f i := by simp [upd, h]
/-! Owned lists of numbers that are written in place. -/
abbrev cseg (b : Nat) (cur : Array Value) : Seg := [(b, .cells cur 3 (0, 0))]
def OIs (b c n : Nat) (f : Nat → Int) (cur : Array Value) : Prop := OSl 3 1 (.slice (some ⟨b, 0, none⟩) n c) n (intC n f) (cseg b cur)
theorem OIs.of {a : Option Addr} {c n : Nat} {f : Nat → Int} {seg : Seg} (h : OSl 3 1 (.slice a n c) n (intC n f) seg) (hn : 0 < n) : ∃ b cur, a = some ⟨b, 0, none⟩ ∧ seg = cseg b cur ∧ OIs b c n f cur := by
  obtain ⟨g, cap, cur, hv, rfl, _⟩ := h.ex hn
  cases hv
  exact ⟨g, cur, rfl, rfl, h⟩
theorem OIs.at {b c n j : Nat} {f : Nat → Int} {cur : Array Value} (h : OIs b c n f cur) (hm : cseg b cur ∈ η) (hj : j < n) : At S w0 η (sAt (some ⟨b, 0, none⟩) (j * 1)) (.int .i64 (f j)) := by
  rw [Nat.mul_one]; exact (OSl.row h hm).cell j _ (intC_get hj)
theorem OIs.size {b c n : Nat} {f : Nat → Int} {cur : Array Value} (h : OIs b c n f cur) : n ≤ cur.size := by
  rcases h.2 with ⟨h0, _⟩ | ⟨g, cap, cur', hv, hs, hc, hz, _⟩
  · cases h0
  · simp only [cseg, List.cons.injEq, Prod.mk.injEq, Obj.cells.injEq, and_true] at hs
    obtain ⟨_, rfl⟩ := hs
    omega
theorem intC_upd {n j : Nat} {f : Nat → Int} {v : Int} : (intC n f).set j (.int .i64 v) = intC n (upd f j v) := by
  apply List.ext_getElem?
  intro i
  rw [List.getElem?_set]
  by_cases hi : i < n
  · rw [intC_get hi, intC_get hi, intC_len]
    unfold upd
    by_cases hj : j = i
    · subst hj; simp [hi]
    · rw [if_neg hj, if_neg (fun e => hj e.symm)]
  · have h1 : (intC n f)[i]? = Option.none := by simp [intC]; omega
    have h2 : (intC n (upd f j v))[i]? = Option.none := by simp [intC]; omega
    rw [h1, h2, intC_len]
    by_cases hj : j = i
    · subst hj; simp [hi]
    · rw [if_neg hj]
theorem OIs.put {b c n : Nat} {f : Nat → Int} {cur : Array Value} (h : OIs b c n f cur) (j : Nat) (v : Int) : OIs b c n (upd f j v) (cur.setIfInBounds j (.int .i64 v)) := by
  have := OSl.put (j := j) (u := .int .i64 v) h
  rw [intC_upd] at this; exact this
theorem OIs.congr {b c n : Nat} {f g : Nat → Int} {cur : Array Value} (h : OIs b c n f cur) (he : ∀ i, i < n → f i = g i) : OIs b c n g cur := by
  unfold OIs at h ⊢; rw [← intC_congr he]; exact h
theorem OIs.row {b c n : Nat} {f : Nat → Int} {cur : Array Value} (h : OIs b c n f cur) (hm : cseg b cur ∈ η) : Row S w0 η (some ⟨b, 0, Option.none⟩) (intC n f) := OSl.row h hm
theorem OIs.fresh {b n : Nat} {f : Nat → Int} : OIs b n n f (intC n f).toArray := osl_fresh (by simp [intC_len])
end Go.Proofs.YtefkmiomldhmjaaDoor
/- What nodes that are kept up to date say: the words of the chapter, in plain Lean. -/
namespace Go.Proofs.YtefkmiomldhmjaaDoor
open Go.Sl
/-- A node, what is set, an instant, and what is computed, as they lie in memory. -/
structure NodeD where
  op : Int
  n : Int
  fa : Option Addr
  fr : List Int
  fc : Nat
  eager : Bool
instance : Inhabited NodeD := ⟨⟨0, 0, none, [], 0, false⟩⟩
structure SetD where
  node : Int
  word : Int
structure InstD where
  sa : Option Addr
  sets : List SetD
  sc : Nat
  aa : Option Addr
  asks : List Int
  ac : Nat
structure DoneD where
  inst : Int
  node : Int
  word : Int
  other : Bool
deriving DecidableEq
def isW (n : Int) : Bool := decide (-2147483648 ≤ n) && decide (n ≤ 2147483647)
def inN (n : Int) (m : Nat) : Bool := decide (0 ≤ n) && decide (n < m)
def okFrom (i : Nat) (fr : List Int) : Bool := fr.all fun f => inN f i
def okHead (x : NodeD) : Bool := decide (0 ≤ x.op) && decide (x.op ≤ 3) && (decide (x.op = 0) == decide (x.fr.length = 0)) && decide (x.fr.length ≤ 6) && isW x.n && (decide (x.op ≠ 3) || decide (1 ≤ x.n))
def okNode (i : Nat) (x : NodeD) : Bool := okHead x && okFrom i x.fr
def validA : List NodeD → Nat → Bool
  | [], _ => true
  | x :: r, i => okNode i x && validA r (i + 1)
def valid (l : List NodeD) : Bool := decide (1 ≤ l.length) && decide (l.length ≤ 40) && validA l 0
def nd (l : List NodeD) (i : Nat) : NodeD := l.getD i default
theorem nd_eq {l : List NodeD} {i : Nat} (h : i < l.length) : nd l i = l[i] := by simp [nd, List.getD_eq_getElem?_getD, h]
structure Ok (l : List NodeD) : Prop where
  pos : 1 ≤ l.length
  len : l.length ≤ 40
  op0 : ∀ i (h : i < l.length), 0 ≤ l[i].op
  op3 : ∀ i (h : i < l.length), l[i].op ≤ 3
  inp : ∀ i (h : i < l.length), l[i].op = 0 ↔ l[i].fr = []
  few : ∀ i (h : i < l.length), l[i].fr.length ≤ 6
  word : ∀ i (h : i < l.length), -2147483648 ≤ l[i].n ∧ l[i].n ≤ 2147483647
  mod : ∀ i (h : i < l.length), l[i].op = 3 → 1 ≤ l[i].n
  fr : ∀ i (h : i < l.length), ∀ f ∈ l[i].fr, 0 ≤ f ∧ f < i
theorem validA_get : ∀ {l : List NodeD} {k : Nat}, validA l k = true → ∀ i (h : i < l.length), okNode (k + i) l[i] = true
  | x :: r, k, h, 0, _ => by simp only [validA, Bool.and_eq_true] at h; simpa using h.1
  | x :: r, k, h, i + 1, hi => by
    simp only [validA, Bool.and_eq_true] at h
    have := validA_get h.2 i (by simpa using hi)
    rw [show k + 1 + i = k + (i + 1) by omega] at this
    simpa using this
theorem inN_iff {n : Int} {m : Nat} : inN n m = true ↔ 0 ≤ n ∧ n < m := by simp [inN]
theorem isW_iff {n : Int} : isW n = true ↔ -2147483648 ≤ n ∧ n ≤ 2147483647 := by simp [isW]
theorem okHead_iff {x : NodeD} : okHead x = true ↔ 0 ≤ x.op ∧ x.op ≤ 3 ∧ (x.op = 0 ↔ x.fr = []) ∧ x.fr.length ≤ 6 ∧ (-2147483648 ≤ x.n ∧ x.n ≤ 2147483647) ∧ (x.op = 3 → 1 ≤ x.n) := by
  simp only [okHead, Bool.and_eq_true, decide_eq_true_eq, beq_iff_eq, decide_eq_decide, List.length_eq_zero_iff, isW_iff, Bool.or_eq_true, ne_eq]
  constructor
  · rintro ⟨⟨⟨⟨⟨h1, h2⟩, h3⟩, h4⟩, h5⟩, h6⟩
    exact ⟨h1, h2, h3, h4, h5, fun h => h6.resolve_left (fun hn => hn h)⟩
  · rintro ⟨h1, h2, h3, h4, h5, h6⟩
    exact ⟨⟨⟨⟨⟨h1, h2⟩, h3⟩, h4⟩, h5⟩, if h : x.op = 3 then .inr (h6 h) else .inl h⟩
theorem ok_of {l : List NodeD} (h : valid l = true) : Ok l := by
  simp only [valid, Bool.and_eq_true, decide_eq_true_eq] at h
  obtain ⟨⟨h1, h2⟩, h3⟩ := h
  have key : ∀ i (hi : i < l.length), okHead l[i] = true ∧ ∀ f ∈ l[i].fr, 0 ≤ f ∧ f < i := fun i hi => by
    have := validA_get h3 i hi
    simp only [okNode, Bool.and_eq_true, okFrom, List.all_eq_true, Nat.zero_add, inN_iff] at this
    exact this
  have k2 := fun i hi => okHead_iff.1 (key i hi).1
  exact ⟨h1, h2, fun i hi => (k2 i hi).1, fun i hi => (k2 i hi).2.1, fun i hi => (k2 i hi).2.2.1, fun i hi => (k2 i hi).2.2.2.1, fun i hi => (k2 i hi).2.2.2.2.1, fun i hi => (k2 i hi).2.2.2.2.2, fun i hi => (key i hi).2⟩
/-! Heights -/
def hgtN (x : NodeD) (H : Nat → Int) : Int := x.fr.foldl (fun m f => max m (H f.toNat + 1)) 0
def hgtF (l : List NodeD) (k : Nat) : Nat → Int := (List.range k).foldl (fun H i => upd H i (hgtN (nd l i) H)) fun _ => 0
def heightsS (l : List NodeD) : List Int × Int := if valid l = true then ((List.range l.length).map (hgtF l l.length), 0) else ([], 1)
theorem fold_succ {α : Type} (g : α → Nat → α) (a : α) (k : Nat) : (List.range (k + 1)).foldl g a = g ((List.range k).foldl g a) k := by rw [List.range_succ, List.foldl_append]; rfl
theorem hgtF_succ (l : List NodeD) (k : Nat) : hgtF l (k + 1) = upd (hgtF l k) k (hgtN (nd l k) (hgtF l k)) := fold_succ _ _ _
/-! Words -/
def wrap32 (n : Int) : Int := (n + 2147483648) % 4294967296 - 2147483648
def sumF (x : NodeD) (W : Nat → Int) : Int := x.fr.foldl (fun s f => s + W f.toNat) 0
def comp (x : NodeD) (W : Nat → Int) : Int :=
  if x.op = 1 then wrap32 (sumF x W + x.n) else if x.op = 2 then x.fr.foldl (fun m f => max m (W f.toNat)) x.n else Int.tmod (Int.tmod (wrap32 (sumF x W)) x.n + x.n) x.n
def nIn (l : List NodeD) : Nat := l.countP fun x => decide (x.op = 0)
def rk (l : List NodeD) (i : Nat) : Nat := nIn (l.take i)
def scrF (l : List NodeD) (ws : List Int) (k : Nat) : Nat → Int := (List.range k).foldl (fun W i => upd W i (if (nd l i).op = 0 then ws.getD (rk l i) 0 else comp (nd l i) W)) fun _ => 0
def scratchS (l : List NodeD) (ws : List Int) : List Int × Int :=
  if valid l = true then if nIn l = ws.length then if ws.all isW = true then ((List.range l.length).map (scrF l ws l.length), 0) else ([], 2) else ([], 2) else ([], 1)
theorem scrF_succ (l : List NodeD) (ws : List Int) (k : Nat) : scrF l ws (k + 1) = upd (scrF l ws k) k (if (nd l k).op = 0 then ws.getD (rk l k) 0 else comp (nd l k) (scrF l ws k)) := fold_succ _ _ _
/-! Instants -/
structure St where
  W : Nat → Int
  O : Nat → Int
  L : Nat → Int
  used : Nat
def startS (l : List NodeD) : St := ⟨fun i => if (nd l i).op = 0 then (nd l i).n else 0, fun _ => -1, fun _ => -1, 0⟩
def setsF (W : Nat → Int) (sets : List SetD) : Nat → Int := sets.foldl (fun W s => upd W s.node.toNat s.word) W
def afterSets (x : InstD) (now : Nat) (s : St) : St := ⟨setsF s.W x.sets, fun i => if setsF s.W x.sets i ≠ s.W i then (now : Int) else s.O i, s.L, s.used⟩
/-- A node leads back to another one. -/
inductive Reach (l : List NodeD) : Nat → Nat → Prop
  | refl (i : Nat) : Reach l i i
  | step {r i : Nat} (f : Int) (h : f ∈ (nd l r).fr) (t : Reach l f.toNat i) : Reach l r i
def isRoot (l : List NodeD) (asks : List Int) (i : Nat) : Bool := (nd l i).eager || decide ((i : Int) ∈ asks)
def WantP (l : List NodeD) (asks : List Int) (i : Nat) : Prop := (nd l i).op ≠ 0 ∧ ∃ r, r < l.length ∧ isRoot l asks r = true ∧ Reach l r i
noncomputable def wantS (l : List NodeD) (asks : List Int) (i : Nat) : Bool := @decide (WantP l asks i) (Classical.propDecidable _)
theorem wantS_iff {l : List NodeD} {asks : List Int} {i : Nat} : wantS l asks i = true ↔ WantP l asks i := by unfold wantS; exact @decide_eq_true_iff _ (Classical.propDecidable _)
def freeS (l : List NodeD) (s : St) (now : Nat) (i : Nat) : Bool := (nd l i).fr.all fun f => decide ((nd l f.toNat).op = 0) || decide (s.L f.toNat = now)
def rdyB (l : List NodeD) (want : Nat → Bool) (s : St) (now : Nat) (i : Nat) : Bool := want i && decide (s.L i < now) && freeS l s now i
def readyS (l : List NodeD) (want : Nat → Bool) (s : St) (now : Nat) : List Nat := (List.range l.length).filter (rdyB l want s now)
def oldS (x : NodeD) (s : St) (i : Nat) : Bool := x.fr.any (fun f => decide (s.O f.toNat > s.L i)) || decide (s.L i < 0)
def otherS (l : List NodeD) (s : St) (i : Nat) : Bool := decide (s.L i < 0) || decide (comp (nd l i) s.W ≠ s.W i)
def lookS (l : List NodeD) (now : Nat) (s : St) (i : Nat) : St :=
  if oldS (nd l i) s i = true then ⟨upd s.W i (comp (nd l i) s.W), if otherS l s i = true then upd s.O i now else s.O, upd s.L i now, s.used + 1⟩ else ⟨s.W, s.O, upd s.L i now, s.used + 1⟩
def doneS (l : List NodeD) (now : Nat) (s : St) (i : Nat) : List DoneD :=
  if oldS (nd l i) s i = true then [⟨now, i, comp (nd l i) s.W, otherS l s i⟩] else []
def whichS (pick : List Int) (used m : Nat) : Nat := if pick.length = 0 then 0 else (pick.getD (used % pick.length) 0).toNat % m
def nextS (pick : List Int) (s : St) (r : List Nat) : Nat := r.getD (whichS pick s.used r.length) 0
def runI (l : List NodeD) (want : Nat → Bool) (now : Nat) (pick : List Int) : Nat → St → List DoneD × Nat × St
  | 0, s => ([], 0, s)
  | f + 1, s =>
    if (readyS l want s now).length = 0 then ([], 0, s)
    else
      let i := nextS pick s (readyS l want s now)
      let z := runI l want now pick f (lookS l now s i)
      (doneS l now s i ++ z.1, z.2.1 + 1, z.2.2)
noncomputable def instS (l : List NodeD) (x : InstD) (now : Nat) (pick : List Int) (s : St) : List DoneD × Nat × St := runI l (wantS l x.asks) now pick l.length (afterSets x now s)
noncomputable def allS (l : List NodeD) (pick : List Int) : List InstD → Nat → St → List DoneD × Nat × List (Nat → Int)
  | [], _, _ => ([], 0, [])
  | x :: r, now, s =>
    let z := instS l x now pick s
    let y := allS l pick r (now + 1) z.2.2
    (z.1 ++ y.1, z.2.1 + y.2.1, z.2.2.W :: y.2.2)
/-! What is refused -/
def setsOk (l : List NodeD) (sets : List SetD) : Bool := sets.all fun s => inN s.node l.length && decide ((nd l s.node.toNat).op = 0) && isW s.word
def asksOk (l : List NodeD) (asks : List Int) : Bool := asks.all fun a => inN a l.length
def instE (l : List NodeD) (x : InstD) : Int := if x.sets.length ≤ 10 ∧ x.asks.length ≤ 10 then if setsOk l x.sets && asksOk l x.asks then 0 else 2 else 3
def instsE (l : List NodeD) : List InstD → Int
  | [] => 0
  | x :: r => if instE l x = 0 then instsE l r else instE l x
def checkS (l : List NodeD) (all : List InstD) (pick : List Int) : Int :=
  if valid l = true then if all.length ≤ 30 ∧ pick.length ≤ 200 then if (pick.all fun p => decide (0 ≤ p) && decide (p ≤ 1000000)) = true then instsE l all else 2 else 3 else 1
noncomputable def toldS (l : List NodeD) (all : List InstD) (pick : List Int) : List DoneD × Nat × List (Nat → Int) := allS l pick all 0 (startS l)
noncomputable def runS (l : List NodeD) (all : List InstD) (pick : List Int) : List DoneD × Int := if checkS l all pick = 0 then ((toldS l all pick).1, 0) else ([], checkS l all pick)
def askedOf (all : List InstD) (ws : List (Nat → Int)) : List (List Int) := List.zipWith (fun (x : InstD) (W : Nat → Int) => x.asks.map fun a => W a.toNat) all ws
def eagerOf (l : List NodeD) (W : Nat → Int) : List Int := ((List.range l.length).filter fun i => (nd l i).eager).map W
noncomputable def askedS (l : List NodeD) (all : List InstD) (pick : List Int) : List (List Int) × Int := if checkS l all pick = 0 then (askedOf all (toldS l all pick).2.2, 0) else ([], checkS l all pick)
noncomputable def eagerS (l : List NodeD) (all : List InstD) (pick : List Int) : List (List Int) × Int := if checkS l all pick = 0 then ((toldS l all pick).2.2.map (eagerOf l), 0) else ([], checkS l all pick)
noncomputable def lookedS (l : List NodeD) (all : List InstD) (pick : List Int) : Int × Int × Int := if checkS l all pick = 0 then (((toldS l all pick).2.1 : Nat), ((toldS l all pick).1.length : Nat), 0) else (0, 0, checkS l all pick)
end Go.Proofs.YtefkmiomldhmjaaDoor
/- Nodes and instants in memory; the table of kinds. -/
namespace Go.Proofs.YtefkmiomldhmjaaDoor
open Go.Sl
theorem mixed : Tryd.prog.follows .mixedOrders = true := by kernel_rfl
variable {S : Nat → Prop} {w0 : World} {η : Heap}
def NodeD.cells (x : NodeD) : List Value := [.int .i64 x.op, .int .i64 x.n, .slice x.fa x.fr.length x.fc, .bool x.eager]
def SetD.cells (x : SetD) : List Value := [.int .i64 x.node, .int .i64 x.word]
def InstD.cells (x : InstD) : List Value := [.slice x.sa x.sets.length x.sc, .slice x.aa x.asks.length x.ac]
def DoneD.cells (x : DoneD) : List Value := [.int .i64 x.inst, .int .i64 x.node, .int .i64 x.word, .bool x.other]
theorem ncl (x : NodeD) : x.cells.length = 4 := rfl
theorem scl (x : SetD) : x.cells.length = 2 := rfl
theorem icl (x : InstD) : x.cells.length = 2 := rfl
theorem dcl (x : DoneD) : x.cells.length = 4 := rfl
theorem ncells1 (x : NodeD) : ∀ v ∈ x.cells, v.oneCell' = true := by
  intro v hv; simp only [NodeD.cells, List.mem_cons, List.not_mem_nil, or_false] at hv
  rcases hv with rfl | rfl | rfl | rfl <;> rfl
theorem scells1 (x : SetD) : ∀ v ∈ x.cells, v.oneCell' = true := by
  intro v hv; simp only [SetD.cells, List.mem_cons, List.not_mem_nil, or_false] at hv
  rcases hv with rfl | rfl <;> rfl
theorem icells1 (x : InstD) : ∀ v ∈ x.cells, v.oneCell' = true := by
  intro v hv; simp only [InstD.cells, List.mem_cons, List.not_mem_nil, or_false] at hv
  rcases hv with rfl | rfl <;> rfl
theorem dcells1 (x : DoneD) : ∀ v ∈ x.cells, v.oneCell' = true := by
  intro v hv; simp only [DoneD.cells, List.mem_cons, List.not_mem_nil, or_false] at hv
  rcases hv with rfl | rfl | rfl | rfl <;> rfl
structure Nodes (S : Nat → Prop) (w0 : World) (η : Heap) (a : Option Addr) (l : List NodeD) : Prop where
  row : Row S w0 η a (l.flatMap NodeD.cells)
  fr : ∀ x ∈ l, Row S w0 η x.fa (ints x.fr)
structure Insts (S : Nat → Prop) (w0 : World) (η : Heap) (a : Option Addr) (l : List InstD) : Prop where
  row : Row S w0 η a (l.flatMap InstD.cells)
  sets : ∀ x ∈ l, Row S w0 η x.sa (x.sets.flatMap SetD.cells)
  asks : ∀ x ∈ l, Row S w0 η x.aa (ints x.asks)
section
variable {a : Option Addr} {l : List NodeD}
theorem Nodes.ad (h : Nodes S w0 η a l) {i : Nat} (hi : i < l.length) : ∃ ad, a = some ad ∧ ad.spot = none := h.row.tad ncl (by decide) hi
theorem Nodes.atA (h : Nodes S w0 η a l) {i : Nat} (hi : i < l.length) : ∀ j v, l[i].cells[j]? = some v → At S w0 η ⟨(sAt a (i * 4)).block, (sAt a (i * 4)).off + j, none⟩ v := h.row.tabA ncl hi
theorem Nodes.at (h : Nodes S w0 η a l) {i : Nat} (hi : i < l.length) (j : Nat) {v : Value} (hj : l[i].cells[j]? = some v) : At S w0 η (sAt a (i * 4 + j)) v := h.row.tab ncl hi j hj
theorem Nodes.frow (h : Nodes S w0 η a l) {i : Nat} (hi : i < l.length) : Row S w0 η l[i].fa (ints l[i].fr) := h.fr _ (List.getElem_mem hi)
theorem Nodes.up {η' : Heap} (h : Nodes S w0 η a l) (hs : ∀ s ∈ η, s ∈ η') : Nodes S w0 η' a l := ⟨h.row.up hs, fun x hx => (h.fr x hx).up hs⟩
theorem Nodes.ro {η' : Heap} (h : Nodes S w0 [] a l) : Nodes S w0 η' a l := h.up (by simp)
theorem Nodes.frz {S' : Nat → Prop} {w1 : World} {ηr : Heap} (h : Nodes S w0 ηr a l) (hz : Frz S S' w0 w1 ηr) : Nodes S' w1 [] a l := ⟨h.row.frz hz, fun x hx => (h.fr x hx).frz hz⟩
theorem Nodes.old {S' : Nat → Prop} {w1 : World} {ηr : Heap} (h : Nodes S w0 [] a l) (hz : Frz S S' w0 w1 ηr) : Nodes S' w1 [] a l := ⟨h.row.old hz, fun x hx => (h.fr x hx).old hz⟩
end
section
variable {a : Option Addr} {l : List InstD}
theorem Insts.ad (h : Insts S w0 η a l) {i : Nat} (hi : i < l.length) : ∃ ad, a = some ad ∧ ad.spot = none := h.row.tad icl (by decide) hi
theorem Insts.atA (h : Insts S w0 η a l) {i : Nat} (hi : i < l.length) : ∀ j v, l[i].cells[j]? = some v → At S w0 η ⟨(sAt a (i * 2)).block, (sAt a (i * 2)).off + j, none⟩ v := h.row.tabA icl hi
theorem Insts.at (h : Insts S w0 η a l) {i : Nat} (hi : i < l.length) (j : Nat) {v : Value} (hj : l[i].cells[j]? = some v) : At S w0 η (sAt a (i * 2 + j)) v := h.row.tab icl hi j hj
theorem Insts.srow (h : Insts S w0 η a l) {i : Nat} (hi : i < l.length) : Row S w0 η l[i].sa (l[i].sets.flatMap SetD.cells) := h.sets _ (List.getElem_mem hi)
theorem Insts.arow (h : Insts S w0 η a l) {i : Nat} (hi : i < l.length) : Row S w0 η l[i].aa (ints l[i].asks) := h.asks _ (List.getElem_mem hi)
theorem Insts.up {η' : Heap} (h : Insts S w0 η a l) (hs : ∀ s ∈ η, s ∈ η') : Insts S w0 η' a l := ⟨h.row.up hs, fun x hx => (h.sets x hx).up hs, fun x hx => (h.asks x hx).up hs⟩
theorem Insts.ro {η' : Heap} (h : Insts S w0 [] a l) : Insts S w0 η' a l := h.up (by simp)
theorem Insts.frz {S' : Nat → Prop} {w1 : World} {ηr : Heap} (h : Insts S w0 ηr a l) (hz : Frz S S' w0 w1 ηr) : Insts S' w1 [] a l := ⟨h.row.frz hz, fun x hx => (h.sets x hx).frz hz, fun x hx => (h.asks x hx).frz hz⟩
theorem Insts.old {S' : Nat → Prop} {w1 : World} {ηr : Heap} (h : Insts S w0 [] a l) (hz : Frz S S' w0 w1 ηr) : Insts S' w1 [] a l := ⟨h.row.old hz, fun x hx => (h.sets x hx).old hz, fun x hx => (h.asks x hx).old hz⟩
end
/-! The table of kinds. -/
def kFrom (o : Nat) : Int := if o = 0 then 0 else 1
def kLeast (o : Nat) : Int := if o = 3 then 1 else -2147483648
def kMakes (o : Nat) : Nat := if o = 0 then 88 else if o = 1 then 90 else if o = 2 then 91 else 93
def kindC (o : Nat) : List Value := [.int .i64 (kFrom o), .int .i64 (kLeast o), .func (.func (kMakes o)) #[] #[]]
theorem kcl (o : Nat) : (kindC o).length = 3 := rfl
theorem kcells1 (o : Nat) : ∀ v ∈ kindC o, v.oneCell' = true := by
  intro v hv; simp only [kindC, List.mem_cons, List.not_mem_nil, or_false] at hv
  rcases hv with rfl | rfl | rfl <;> rfl
/-- What the program's table holds. -/
def Kinds (S : Nat → Prop) (w0 : World) : Prop := ∀ o j v, o < 4 → (kindC o)[j]? = some v → At S w0 [] ⟨0, o * 3 + j, none⟩ v
theorem Kinds.at (h : Kinds S w0) {o : Nat} (ho : o < 4) (j : Nat) {v : Value} (hj : (kindC o)[j]? = some v) : At S w0 η ⟨0, o * 3 + j, none⟩ v := (h o j v ho hj).up (by simp)
theorem Kinds.old {S' : Nat → Prop} {w1 : World} {ηr : Heap} (h : Kinds S w0) (hz : Frz S S' w0 w1 ηr) : Kinds S' w1 := fun o j v ho hj => hz.old (h o j v ho hj)
end Go.Proofs.YtefkmiomldhmjaaDoor
/- Leaves: what is refused and recovered, small lists, words. -/
namespace Go.Proofs.YtefkmiomldhmjaaDoor
open Go.Sl
variable {S : Nat → Prop} {w0 : World} {η : Heap}
set_option maxHeartbeats 2000000 in
theorem stopped_nil (p : Value) :
    Rt Tryd.prog 35 [.nilIface, p].toArray S w0 η (fun _ η' => η' = η) := by
  have hF := open_wide
  refine Rt.of (fn := Tryd.f35) Tryd.func35 rfl rfl ?_
  refine T.seq ?_
  refine T.seq ?_
  refine T.region ?_
  refine TL.move hF rfl rfl ?_
  refine TL.binR hF rfl rfl (r := .bool true) (fun w => by kernel_rfl) rfl ?_
  refine TL.nil ?_
  refine TQ.then_n ?_
  refine T.cond_t rfl rfl ?_
  refine T.ret ?_
  refine TQ.then_r ?_
  refine TQ.rets [] _ rfl rfl rfl ?_
  rfl
set_option maxHeartbeats 2000000 in
theorem stopped_err (code : Int) {b : Nat} {old : Value} {η1 : Heap} :
    Rt Tryd.prog 35 [.iface 99 (.agg #[.int .i64 code]), .pointer (some ⟨b, 0, none⟩)].toArray S w0 ([(b, .cells #[old] 27 (0, 0))] :: η1) (fun _ η' => η' = [(b, .cells #[.int .i64 code] 27 (0, 0))] :: η1) := by
  have hF := open_wide
  refine Rt.of (fn := Tryd.f35) Tryd.func35 rfl rfl ?_
  refine T.seq ?_
  refine T.seq ?_
  refine T.region ?_
  refine TL.move hF rfl rfl ?_
  refine TL.binR hF rfl rfl (r := .bool false) (fun w => by kernel_rfl) rfl ?_
  refine TL.nil ?_
  refine TQ.then_n ?_
  refine T.cond_f rfl rfl ?_
  refine T.skip ?_
  refine TQ.then_n ?_
  refine T.seq ?_
  refine T.region ?_
  refine TL.move hF rfl rfl ?_
  refine TL.typeAssertR hF rfl (r := .tuple #[.agg #[.int .i64 code], .bool true]) (fun w => by kernel_rfl) rfl ?_
  refine TL.move hF rfl rfl ?_
  refine TL.extract hF rfl rfl rfl ?_
  refine TL.extract hF rfl rfl rfl ?_
  refine TL.alloc hF rfl (fun b4 => ?_)
  refine TL.storeAI hF [.int .i64 code] 0 rfl rfl rfl rfl (by simp [Value.oneCell']) (by simp [Value.cells]) ?_
  refine TL.assign hF rfl rfl ?_
  refine TL.nil ?_
  refine TQ.then_n ?_
  refine T.seq ?_
  refine T.seq ?_
  refine T.region ?_
  refine TL.move hF rfl rfl ?_
  refine TL.not hF rfl rfl ?_
  refine TL.nil ?_
  refine TQ.then_n ?_
  refine T.cond_f rfl rfl ?_
  refine T.skip ?_
  refine TQ.then_n ?_
  refine T.region ?_
  refine TL.move hF rfl rfl ?_
  refine TL.fieldAddr hF rfl rfl ?_
  refine TL.load hF rfl (by first | exact At.own' (i := 0) rfl rfl | exact At.own' (i := 1) rfl rfl | exact At.own' (i := 2) rfl rfl | exact At.own' (i := 3) rfl rfl | exact At.own' (i := 4) rfl rfl | exact At.own' (i := 5) rfl rfl | exact At.own' (i := 6) rfl rfl | exact At.own' (i := 7) rfl rfl | exact At.own' (i := 8) rfl rfl | exact At.own' (i := 9) rfl rfl | exact At.own' (i := 10) rfl rfl | exact At.own' (i := 11) rfl rfl | exact At.own' (i := 12) rfl rfl) rfl ?_
  refine TL.nilCheck hF rfl rfl ?_
  refine TL.storeI hF 1 rfl rfl rfl rfl (by simp) ?_
  refine TL.nil ?_
  refine TQ.norm ?_
  refine TQ.pop ?_
  refine TQ.rets [] _ rfl rfl rfl ?_
  rfl
abbrev stopV (code : Int) : List PanicEntry := [{ v := .iface 99 (.agg #[.int .i64 code]), recovered := false }]
set_option maxHeartbeats 2000000 in
theorem must_ok (code : Int) :
    Rt Tryd.prog 39 [.bool true, .int .i64 code].toArray S w0 η (fun _ η' => η' = η) := by
  have hF := open_wide
  refine Rt.of (fn := Tryd.f39) Tryd.func39 rfl rfl ?_
  refine T.seq ?_
  refine T.region ?_
  refine TL.move hF rfl rfl ?_
  refine TL.not hF rfl rfl ?_
  refine TL.nil ?_
  refine TQ.then_n ?_
  refine T.cond_f rfl rfl ?_
  refine T.skip ?_
  refine TQ.norm ?_
  refine TQ.rets [] _ rfl rfl rfl ?_
  rfl
set_option maxHeartbeats 2000000 in
theorem must_no (code : Int) :
    RtE Tryd.prog 39 [.bool false, .int .i64 code].toArray S w0 η (fun _ _ => False) (fun ch η' => ch = stopV code ∧ η' = η) := by
  have hF := open_wide
  refine RtE.of (fn := Tryd.f39) Tryd.func39 rfl rfl ?_
  refine T.seq ?_
  refine T.region ?_
  refine TL.move hF rfl rfl ?_
  refine TL.not hF rfl rfl ?_
  refine TL.nil ?_
  refine TQ.then_n ?_
  refine T.cond_t rfl rfl ?_
  refine T.region ?_
  refine TL.move hF rfl rfl ?_
  refine TL.build hF rfl (r := .agg #[.int .i64 code]) (fun w => by kernel_rfl) rfl ?_
  refine TL.makeInterfaceR hF rfl (r := .iface 99 (.agg #[.int .i64 code])) (fun w => by kernel_rfl) rfl ?_
  refine TL.panic hF rfl ?_
  exact TQ.panicE ⟨rfl, rfl⟩ --stop
theorem must_fn (is : Bool) (code : Int) : RtE Tryd.prog 39 [.bool is, .int .i64 code].toArray S w0 η (fun _ η' => is = true ∧ η' = η) (fun ch η' => is = false ∧ ch = stopV code ∧ η' = η) := by
  cases is
  · exact (must_no code).mono (fun _ _ (h : False) => h.elim) (fun _ _ h => ⟨rfl, h⟩)
  · exact (must_ok code).toE.mono (fun _ _ h => ⟨rfl, h⟩) (fun _ _ (h : False) => h.elim)
set_option maxHeartbeats 2000000 in
theorem within_fn (n low high : Int) :
    Rt Tryd.prog 40 [.int .i64 n, .int .i64 low, .int .i64 high].toArray S w0 η (fun v η' => v = .bool (decide (low ≤ n) && decide (n ≤ high)) ∧ η' = η) := by
  have hF := open_wide
  refine Rt.of (fn := Tryd.f40) Tryd.func40 rfl rfl ?_
  refine T.seq ?_
  refine T.region ?_
  refine TL.assign hF rfl rfl ?_
  refine TL.nil ?_
  refine TQ.then_n ?_
  refine T.seq ?_
  refine T.region ?_
  refine TL.move hF rfl rfl ?_
  refine TL.move hF rfl rfl ?_
  refine TL.bin hF rfl rfl rfl rfl ?_
  refine TL.move hF rfl rfl ?_
  refine TL.gd (t := 10) rfl (fun g1_10 => ?_) (fun g1_10 => ?_)
  · refine TL.on rfl rfl rfl (decide_eq_true g1_10) ?_
    refine TL.move hF rfl rfl ?_
    refine TL.on rfl rfl rfl (decide_eq_true g1_10) ?_
    refine TL.move hF rfl rfl ?_
    refine TL.on rfl rfl rfl (decide_eq_true g1_10) ?_
    refine TL.bin hF rfl rfl rfl rfl ?_
    refine TL.pickT hF rfl (decide_eq_true g1_10) rfl rfl ?_
    refine TL.assign hF rfl rfl ?_
    refine TL.nil ?_
    refine TQ.then_n ?_
    refine T.ret ?_
    refine TQ.rets [6] _ rfl rfl rfl ?_
    exact ⟨by simp [retVal, *], rfl⟩
  · refine TL.off hF rfl rfl rfl (decide_eq_false g1_10) rfl ?_
    refine TL.off hF rfl rfl rfl (decide_eq_false g1_10) rfl ?_
    refine TL.off hF rfl rfl rfl (decide_eq_false g1_10) rfl ?_
    refine TL.pickF hF rfl (decide_eq_false g1_10) rfl rfl ?_
    refine TL.assign hF rfl rfl ?_
    refine TL.nil ?_
    refine TQ.then_n ?_
    refine T.ret ?_
    refine TQ.rets [6] _ rfl rfl rfl ?_
    exact ⟨by simp [retVal, *], rfl⟩
def whereA (n : Int) : List Int → Nat → Int
  | [], _ => -1
  | x :: xs, i => if x = n then i else whereA n xs (i + 1)
theorem whereA_ge {n : Int} : ∀ {xs : List Int} {i : Nat}, (0 ≤ whereA n xs i) ↔ n ∈ xs
  | [], i => by simp [whereA]
  | x :: xs, i => by
    unfold whereA
    by_cases h : x = n
    · subst h; simp
    · rw [if_neg h, whereA_ge (xs := xs)]; simp [Ne.symm h]
set_option maxHeartbeats 2000000 in
theorem Index_fn {a : Option Addr} {xs : List Int} {c : Nat} (n : Int) (hx : Row S w0 η a (ints xs)) (hl : xs.length < 2 ^ 63) :
    Rt Tryd.prog 72 [.slice a xs.length c, .int .i64 n].toArray S w0 η (fun v η' => v = .int .i64 (whereA n xs 0) ∧ η' = η) := by
  have hF := open_wide
  refine Rt.of (fn := Tryd.f72) Tryd.func72 rfl rfl ?_
  refine T.seq ?_
  refine T.region ?_
  refine TL.assign hF rfl rfl ?_
  refine TL.nil ?_
  refine TQ.then_n ?_
  refine T.seq ?_
  refine T.seq ?_
  refine T.region ?_
  refine TL.move hF rfl rfl ?_
  refine TL.len hF rfl rfl ?_
  refine TL.move hF rfl rfl ?_
  refine TL.nil ?_
  refine TQ.then_n ?_
  refine T.block ?_
  refine T.loop (ι := Nat) (fun k => k ≤ xs.length ∧ whereA n xs 0 = whereA n (xs.drop k) k) (fun k => [(0, .slice a xs.length c), (1, .int .i64 n), (7, .int .i64 (xs.length : Int)), (8, .int .i64 (k : Int))]) (fun _ => η) (fun k => xs.length - k) 0 ⟨Nat.zero_le _, by simp⟩ ⟨rfl, rfl, rfl, rfl, trivial⟩ rfl ?_
  rintro k ⟨hk, hno⟩
  refine T.seq ?_
  refine T.region ?_
  refine TL.bin hF rfl rfl rfl rfl ?_
  refine TL.nil ?_
  refine TQ.then_n ?_
  refine T.seq ?_
  first | refine T.cond_d rfl (fun ht9 => ?_) (fun ht9 => ?_) | refine T.cond _ rfl (fun ht9 => ?_) (fun ht9 => ?_)
  · refine T.skip ?_
    refine TQ.then_n ?_
    refine T.seq ?_
    refine T.block ?_
    refine T.seq ?_
    refine T.region ?_
    refine TL.move hF rfl rfl ?_
    refine TL.assign hF rfl rfl ?_
    refine TL.nil ?_
    refine TQ.then_n ?_
    refine T.seq ?_
    refine T.region ?_
    refine TL.move hF rfl rfl ?_
    refine TL.move hF rfl rfl ?_
    refine TL.move hF rfl rfl ?_
    refine TL.indexAddr hF rfl rfl (hx.adi (i := k) (by simp; omega)) (by omega) (by omega) rfl ?_
    refine TL.load hF rfl (hx.int (i := k) (by omega)) rfl ?_
    refine TL.bin hF rfl rfl rfl rfl ?_
    refine TL.nil ?_
    refine TQ.then_n ?_
    first | refine T.cond_d rfl (fun ht16 => ?_) (fun ht16 => ?_) | refine T.cond _ rfl (fun ht16 => ?_) (fun ht16 => ?_)
    · refine T.seq ?_
      refine T.region ?_
      refine TL.move hF rfl rfl ?_
      refine TL.assign hF rfl rfl ?_
      refine TL.nil ?_
      refine TQ.then_n ?_
      refine T.ret ?_
      refine TQ.block_r ?_
      refine TQ.then_r ?_
      refine TQ.then_r ?_
      refine TQ.block_r ?_
      refine TQ.then_r ?_
      refine TQ.rets [4] _ rfl rfl rfl ?_
      exact ⟨by rw [hno, drop_step (by omega), whereA, if_pos ht16.symm]; rfl, rfl⟩
    · refine T.skip ?_
      refine TQ.block_n ?_
      refine TQ.then_n ?_
      refine T.region ?_
      refine TL.add hF rfl rfl (by omega) (by omega) rfl ?_
      refine TL.move hF rfl rfl ?_
      refine TL.nil ?_
      refine TQ.round (k + 1) ⟨by omega, by rw [hno, drop_step (by omega), whereA, if_neg (fun h => ht16 h.symm)]⟩ (by omega) ⟨rfl, rfl, rfl, rfl, trivial⟩ rfl
  · refine T.exit ?_
    refine TQ.then_x ?_
    refine TQ.then_x ?_
    refine TQ.block_x ?_
    refine TQ.then_n ?_
    refine T.seq ?_
    refine T.region ?_
    refine TL.assign hF rfl rfl ?_
    refine TL.nil ?_
    refine TQ.then_n ?_
    refine T.ret ?_
    refine TQ.rets [4] _ rfl rfl rfl ?_
    exact ⟨by rw [hno, List.drop_of_length_le (by omega)]; rfl, rfl⟩
set_option maxHeartbeats 2000000 in
theorem Contains_fn {a : Option Addr} {xs : List Int} {c : Nat} (n : Int) (hx : Row S w0 η a (ints xs)) (hl : xs.length < 2 ^ 63) :
    Rt Tryd.prog 69 [.slice a xs.length c, .int .i64 n].toArray S w0 η (fun v η' => v = .bool (decide (n ∈ xs)) ∧ η' = η) := by
  have hF := open_wide
  refine Rt.of (fn := Tryd.f69) Tryd.func69 rfl rfl ?_
  refine T.seq ?_
  refine T.region ?_
  refine TL.assign hF rfl rfl ?_
  refine TL.nil ?_
  refine TQ.then_n ?_
  refine T.seq ?_
  refine T.region ?_
  refine TL.move hF rfl rfl ?_
  refine TL.move hF rfl rfl ?_
  refine TL.callV hF (Index_fn n hx hl) rfl rfl ?_
  refine TL.bin hF rfl rfl rfl rfl ?_
  refine TL.assign hF rfl rfl ?_
  refine TL.nil ?_
  refine TQ.then_n ?_
  refine T.ret ?_
  refine TQ.rets [4] _ rfl rfl rfl ?_
  exact ⟨congrArg Value.bool (by rw [Bool.eq_iff_iff]; simp only [decide_eq_true_eq]; exact whereA_ge), rfl⟩
set_option maxHeartbeats 2000000 in
theorem Equal_fn {a b : Option Addr} {xs ys : List Int} {ca cb : Nat} (hx : Row S w0 η a (ints xs)) (hy : Row S w0 η b (ints ys)) (hl : xs.length < 2 ^ 63) :
    Rt Tryd.prog 16 [.slice a xs.length ca, .slice b ys.length cb].toArray S w0 η (fun v η' => v = .bool (decide (xs = ys)) ∧ η' = η) := by
  have hF := open_wide
  refine Rt.of (fn := Tryd.f16) Tryd.func16 rfl rfl ?_
  refine T.seq ?_
  refine T.region ?_
  refine TL.assign hF rfl rfl ?_
  refine TL.nil ?_
  refine TQ.then_n ?_
  refine T.seq ?_
  refine T.region ?_
  refine TL.move hF rfl rfl ?_
  refine TL.len hF rfl rfl ?_
  refine TL.move hF rfl rfl ?_
  refine TL.len hF rfl rfl ?_
  refine TL.bin hF rfl rfl rfl rfl ?_
  refine TL.assign hF rfl rfl ?_
  refine TL.nil ?_
  refine TQ.then_n ?_
  refine T.seq ?_
  refine T.seq ?_
  refine T.region ?_
  refine TL.assign hF rfl rfl ?_
  refine TL.nil ?_
  refine TQ.then_n ?_
  refine T.block ?_
  refine T.loop (ι := Nat × Bool) (fun i => i.1 ≤ xs.length ∧ (i.2 = true → xs.length = ys.length ∧ xs.take i.1 = ys.take i.1) ∧ (i.2 = false → xs ≠ ys)) (fun i => [(0, .slice a xs.length ca), (1, .slice b ys.length cb), (5, .bool i.2), (6, .int .i64 (i.1 : Int))]) (fun _ => η) (fun i => xs.length - i.1) (0, decide ((xs.length : Int) = ys.length)) ⟨Nat.zero_le _, fun h => ⟨by simpa [Int.ofNat_inj] using h, by simp⟩, fun h e => by subst e; simp at h⟩ ⟨rfl, rfl, rfl, rfl, trivial⟩ rfl ?_
  rintro ⟨k, s⟩ ⟨hk, hs1, hs2⟩
  simp only at hk hs1 hs2
  refine T.seq ?_
  refine T.seq ?_
  refine T.region ?_
  refine TL.move hF rfl rfl ?_
  refine TL.move hF rfl rfl ?_
  refine TL.gb (t := 13) rfl (fun g3_13 => ?_) (fun g3_13 => ?_)
  · refine TL.on rfl rfl rfl g3_13 ?_
    refine TL.move hF rfl rfl ?_
    refine TL.on rfl rfl rfl g3_13 ?_
    refine TL.move hF rfl rfl ?_
    refine TL.on rfl rfl rfl g3_13 ?_
    refine TL.len hF rfl rfl ?_
    refine TL.on rfl rfl rfl g3_13 ?_
    refine TL.bin hF rfl rfl rfl rfl ?_
    refine TL.pickT hF rfl g3_13 rfl rfl ?_
    refine TL.nil ?_
    refine TQ.then_n ?_
    first | refine T.cond_d rfl (fun ht18 => ?_) (fun ht18 => ?_) | refine T.cond _ rfl (fun ht18 => ?_) (fun ht18 => ?_)
    · refine T.skip ?_
      refine TQ.then_n ?_
      refine T.seq ?_
      refine T.block ?_
      refine T.draw ?_
      refine DR.stepV [_] rfl [(0, _, none)] rfl rfl ⟨⟨rfl, by kernel_rfl⟩, trivial⟩ (fun ext => TL.move hF rfl rfl TL.fin) ?_
      refine DR.stepV [_, _] rfl [(6, _, none)] rfl rfl ⟨⟨rfl, by kernel_rfl⟩, trivial⟩ (fun ext => TL.move hF rfl rfl TL.fin) ?_
      refine DR.stepV [_, _, _] rfl [(21, _, some 0), (22, _, some 1)] rfl rfl ⟨⟨rfl, rfl, rfl⟩, ⟨rfl, rfl, rfl⟩, trivial⟩ (fun ext => TL.indexAddr hF rfl rfl (hx.adi (i := k) (by simp; omega)) (by omega) (by omega) rfl TL.fin) ?_
      refine DR.stepV [_, _, _, _] rfl [(23, _, some 2)] rfl rfl ⟨⟨rfl, rfl, rfl⟩, trivial⟩ (fun ext => TL.load hF rfl (hx.int (i := k) (by omega)) rfl TL.fin) ?_
      refine DR.stepV [_, _, _, _, _] rfl [(1, _, none)] rfl rfl ⟨⟨rfl, by kernel_rfl⟩, trivial⟩ (fun ext => TL.move hF rfl rfl TL.fin) ?_
      refine DR.stepV [_, _, _, _, _, _] rfl [(6, _, none)] rfl rfl ⟨⟨rfl, by kernel_rfl⟩, trivial⟩ (fun ext => TL.move hF rfl rfl TL.fin) ?_
      refine DR.stepV [_, _, _, _, _, _, _] rfl [(25, _, some 4), (26, _, some 5)] rfl rfl ⟨⟨rfl, rfl, rfl⟩, ⟨rfl, rfl, rfl⟩, trivial⟩ (fun ext => TL.indexAddr hF rfl rfl (hy.adi (i := k) (by simp; have := (hs1 g3_13).1; omega)) (by omega) (by have := (hs1 g3_13).1; omega) rfl TL.fin) ?_
      refine DR.stepV [_, _, _, _, _, _, _, _] rfl [(27, _, some 6)] rfl rfl ⟨⟨rfl, rfl, rfl⟩, trivial⟩ (fun ext => TL.load hF rfl (hy.int (i := k) (by have := (hs1 g3_13).1; omega)) rfl TL.fin) ?_
      refine DR.done [(28, _), (27, _), (26, _), (25, _), (24, _), (23, _), (22, _), (21, _)] [_, _] mixed (by kernel_rfl) (by kernel_rfl) (by kernel_rfl) rfl rfl ?_
      refine TL.bin hF rfl rfl rfl rfl ?_
      refine TL.assign hF rfl rfl ?_
      refine TL.nil ?_
      refine TQ.block_n ?_
      refine TQ.then_n ?_
      refine T.region ?_
      refine TL.move hF rfl rfl ?_
      refine TL.add hF rfl rfl (by omega) (by omega) rfl ?_
      refine TL.assign hF rfl rfl ?_
      refine TL.nil ?_
      refine TQ.round (k + 1, decide (xs[k]'(by omega) = ys[k]'(by have := (hs1 g3_13).1; omega))) ⟨by simp only; omega, fun h => ⟨(hs1 g3_13).1, take_succ_eq _ _ (hs1 g3_13).2 (of_decide_eq_true h)⟩, fun h => ne_of_getElem _ _ (of_decide_eq_false h)⟩ (by simp only; omega) ⟨rfl, rfl, rfl, rfl, trivial⟩ rfl
    · refine T.exit ?_
      refine TQ.then_x ?_
      refine TQ.then_x ?_
      refine TQ.block_x ?_
      refine TQ.then_n ?_
      refine T.seq ?_
      refine T.region ?_
      refine TL.move hF rfl rfl ?_
      refine TL.assign hF rfl rfl ?_
      refine TL.nil ?_
      refine TQ.then_n ?_
      refine T.ret ?_
      refine TQ.rets [4] _ rfl rfl rfl ?_
      subst g3_13
      have h1 := hs1 rfl
      have h2 : xs = ys := by have := h1.2; rwa [List.take_of_length_le (by omega), List.take_of_length_le (by omega)] at this
      exact ⟨by simp [retVal, h2], rfl⟩
  · refine TL.off hF rfl rfl rfl g3_13 rfl ?_
    refine TL.off hF rfl rfl rfl g3_13 rfl ?_
    refine TL.off hF rfl rfl rfl g3_13 rfl ?_
    refine TL.off hF rfl rfl rfl g3_13 rfl ?_
    refine TL.pickF hF rfl g3_13 rfl rfl ?_
    refine TL.nil ?_
    refine TQ.then_n ?_
    refine T.cond_f rfl rfl ?_
    refine T.exit ?_
    refine TQ.then_x ?_
    refine TQ.then_x ?_
    refine TQ.block_x ?_
    refine TQ.then_n ?_
    refine T.seq ?_
    refine T.region ?_
    refine TL.move hF rfl rfl ?_
    refine TL.assign hF rfl rfl ?_
    refine TL.nil ?_
    refine TQ.then_n ?_
    refine T.ret ?_
    refine TQ.rets [4] _ rfl rfl rfl ?_
    subst g3_13
    exact ⟨by simp [retVal, hs2 rfl], rfl⟩
set_option maxHeartbeats 2000000 in
theorem EqualLists_fn {a b : Option Addr} {xs ys : List (List Int)} {ca cb : Nat} (hx : Lists S w0 η a xs) (hy : Lists S w0 η b ys) (hl : xs.length < 2 ^ 63) (hlx : ∀ l ∈ xs, l.length < 2 ^ 63) :
    Rt Tryd.prog 26 [.slice a xs.length ca, .slice b ys.length cb].toArray S w0 η (fun v η' => v = .bool (decide (xs = ys)) ∧ η' = η) := by
  have hF := open_wide
  refine Rt.of (fn := Tryd.f26) Tryd.func26 rfl rfl ?_
  refine T.seq ?_
  refine T.region ?_
  refine TL.assign hF rfl rfl ?_
  refine TL.nil ?_
  refine TQ.then_n ?_
  refine T.seq ?_
  refine T.region ?_
  refine TL.move hF rfl rfl ?_
  refine TL.len hF rfl rfl ?_
  refine TL.move hF rfl rfl ?_
  refine TL.len hF rfl rfl ?_
  refine TL.bin hF rfl rfl rfl rfl ?_
  refine TL.assign hF rfl rfl ?_
  refine TL.nil ?_
  refine TQ.then_n ?_
  refine T.seq ?_
  refine T.seq ?_
  refine T.region ?_
  refine TL.assign hF rfl rfl ?_
  refine TL.nil ?_
  refine TQ.then_n ?_
  refine T.block ?_
  obtain ⟨fx, hx1, hx2⟩ := hx.item
  obtain ⟨fy, hy1, hy2⟩ := hy.item
  refine T.loop (ι := Nat × Bool) (fun i => i.1 ≤ xs.length ∧ (i.2 = true → xs.length = ys.length ∧ xs.take i.1 = ys.take i.1) ∧ (i.2 = false → xs ≠ ys)) (fun i => [(0, .slice a xs.length ca), (1, .slice b ys.length cb), (5, .bool i.2), (6, .int .i64 (i.1 : Int))]) (fun _ => η) (fun i => xs.length - i.1) (0, decide ((xs.length : Int) = ys.length)) ⟨Nat.zero_le _, fun h => ⟨by simpa [Int.ofNat_inj] using h, by simp⟩, fun h e => by subst e; simp at h⟩ ⟨rfl, rfl, rfl, rfl, trivial⟩ rfl ?_
  rintro ⟨k, s⟩ ⟨hk, hs1, hs2⟩
  simp only at hk hs1 hs2
  refine T.seq ?_
  refine T.seq ?_
  refine T.region ?_
  refine TL.move hF rfl rfl ?_
  refine TL.move hF rfl rfl ?_
  refine TL.gb (t := 13) rfl (fun g3_13 => ?_) (fun g3_13 => ?_)
  · refine TL.on rfl rfl rfl g3_13 ?_
    refine TL.move hF rfl rfl ?_
    refine TL.on rfl rfl rfl g3_13 ?_
    refine TL.move hF rfl rfl ?_
    refine TL.on rfl rfl rfl g3_13 ?_
    refine TL.len hF rfl rfl ?_
    refine TL.on rfl rfl rfl g3_13 ?_
    refine TL.bin hF rfl rfl rfl rfl ?_
    refine TL.pickT hF rfl g3_13 rfl rfl ?_
    refine TL.nil ?_
    refine TQ.then_n ?_
    first | refine T.cond_d rfl (fun ht18 => ?_) (fun ht18 => ?_) | refine T.cond _ rfl (fun ht18 => ?_) (fun ht18 => ?_)
    · refine T.skip ?_
      refine TQ.then_n ?_
      refine T.seq ?_
      refine T.block ?_
      refine T.draw ?_
      refine DR.stepV [_] rfl [(0, _, none)] rfl rfl ⟨⟨rfl, by kernel_rfl⟩, trivial⟩ (fun ext => TL.move hF rfl rfl TL.fin) ?_
      refine DR.stepV [_, _] rfl [(6, _, none)] rfl rfl ⟨⟨rfl, by kernel_rfl⟩, trivial⟩ (fun ext => TL.move hF rfl rfl TL.fin) ?_
      refine DR.stepV [_, _, _] rfl [(21, _, some 0), (22, _, some 1)] rfl rfl ⟨⟨rfl, rfl, rfl⟩, ⟨rfl, rfl, rfl⟩, trivial⟩ (fun ext => TL.indexAddr hF rfl rfl (hx2 k (by omega)) (by omega) (by omega) rfl TL.fin) ?_
      refine DR.stepV [_, _, _, _] rfl [(23, _, some 2)] rfl rfl ⟨⟨rfl, rfl, rfl⟩, trivial⟩ (fun ext => TL.load hF rfl (hx1 k (by omega)).1 rfl TL.fin) ?_
      refine DR.stepV [_, _, _, _, _] rfl [(1, _, none)] rfl rfl ⟨⟨rfl, by kernel_rfl⟩, trivial⟩ (fun ext => TL.move hF rfl rfl TL.fin) ?_
      refine DR.stepV [_, _, _, _, _, _] rfl [(6, _, none)] rfl rfl ⟨⟨rfl, by kernel_rfl⟩, trivial⟩ (fun ext => TL.move hF rfl rfl TL.fin) ?_
      refine DR.stepV [_, _, _, _, _, _, _] rfl [(25, _, some 4), (26, _, some 5)] rfl rfl ⟨⟨rfl, rfl, rfl⟩, ⟨rfl, rfl, rfl⟩, trivial⟩ (fun ext => TL.indexAddr hF rfl rfl (hy2 k (by have := (hs1 g3_13).1; omega)) (by omega) (by have := (hs1 g3_13).1; omega) rfl TL.fin) ?_
      refine DR.stepV [_, _, _, _, _, _, _, _] rfl [(27, _, some 6)] rfl rfl ⟨⟨rfl, rfl, rfl⟩, trivial⟩ (fun ext => TL.load hF rfl (hy1 k (by have := (hs1 g3_13).1; omega)).1 rfl TL.fin) ?_
      refine DR.done [(28, _), (27, _), (26, _), (25, _), (24, _), (23, _), (22, _), (21, _)] [_, _] mixed (by kernel_rfl) (by kernel_rfl) (by kernel_rfl) rfl rfl ?_
      refine TL.callV hF (Equal_fn (hx1 k (by omega)).2 (hy1 k (by have := (hs1 g3_13).1; omega)).2 (hlx _ (List.getElem_mem _))) rfl rfl ?_
      refine TL.assign hF rfl rfl ?_
      refine TL.nil ?_
      refine TQ.block_n ?_
      refine TQ.then_n ?_
      refine T.region ?_
      refine TL.move hF rfl rfl ?_
      refine TL.add hF rfl rfl (by omega) (by omega) rfl ?_
      refine TL.assign hF rfl rfl ?_
      refine TL.nil ?_
      refine TQ.round (k + 1, decide (xs[k]'(by omega) = ys[k]'(by have := (hs1 g3_13).1; omega))) ⟨by simp only; omega, fun h => ⟨(hs1 g3_13).1, take_succ_eq _ _ (hs1 g3_13).2 (of_decide_eq_true h)⟩, fun h => ne_of_getElem _ _ (of_decide_eq_false h)⟩ (by simp only; omega) ⟨rfl, rfl, rfl, rfl, trivial⟩ rfl
    · refine T.exit ?_
      refine TQ.then_x ?_
      refine TQ.then_x ?_
      refine TQ.block_x ?_
      refine TQ.then_n ?_
      refine T.seq ?_
      refine T.region ?_
      refine TL.move hF rfl rfl ?_
      refine TL.assign hF rfl rfl ?_
      refine TL.nil ?_
      refine TQ.then_n ?_
      refine T.ret ?_
      refine TQ.rets [4] _ rfl rfl rfl ?_
      subst g3_13
      have h1 := hs1 rfl
      have h2 : xs = ys := by have := h1.2; rwa [List.take_of_length_le (by omega), List.take_of_length_le (by omega)] at this
      exact ⟨by simp [retVal, h2], rfl⟩
  · refine TL.off hF rfl rfl rfl g3_13 rfl ?_
    refine TL.off hF rfl rfl rfl g3_13 rfl ?_
    refine TL.off hF rfl rfl rfl g3_13 rfl ?_
    refine TL.off hF rfl rfl rfl g3_13 rfl ?_
    refine TL.pickF hF rfl g3_13 rfl rfl ?_
    refine TL.nil ?_
    refine TQ.then_n ?_
    refine T.cond_f rfl rfl ?_
    refine T.exit ?_
    refine TQ.then_x ?_
    refine TQ.then_x ?_
    refine TQ.block_x ?_
    refine TQ.then_n ?_
    refine T.seq ?_
    refine T.region ?_
    refine TL.move hF rfl rfl ?_
    refine TL.assign hF rfl rfl ?_
    refine TL.nil ?_
    refine TQ.then_n ?_
    refine T.ret ?_
    refine TQ.rets [4] _ rfl rfl rfl ?_
    subst g3_13
    exact ⟨by simp [retVal, hs2 rfl], rfl⟩
end Go.Proofs.YtefkmiomldhmjaaDoor
/- Words; what nodes are refused. -/
namespace Go.Proofs.YtefkmiomldhmjaaDoor
open Go.Sl
variable {S : Nat → Prop} {w0 : World} {η : Heap}
set_option maxHeartbeats 2000000 in
theorem Word_fn (n : Int) :
    Rt Tryd.prog 51 [.int .i64 n].toArray S w0 η (fun v η' => v = .int .i64 (wrap32 n) ∧ η' = η) := by
  have hF := open_wide
  refine Rt.of (fn := Tryd.f51) Tryd.func51 rfl rfl ?_
  refine T.seq ?_
  refine T.region ?_
  refine TL.assign hF rfl rfl ?_
  refine TL.nil ?_
  refine TQ.then_n ?_
  refine T.seq ?_
  refine T.region ?_
  refine TL.move hF rfl rfl ?_
  refine TL.andLow hF rfl rfl rfl ?_
  refine TL.assign hF rfl rfl ?_
  refine TL.nil ?_
  refine TQ.then_n ?_
  refine T.seq ?_
  refine T.seq ?_
  refine T.region ?_
  refine TL.move hF rfl rfl ?_
  refine TL.bin hF rfl rfl rfl rfl ?_
  refine TL.nil ?_
  refine TQ.then_n ?_
  first | refine T.cond_d rfl (fun ht7 => ?_) (fun ht7 => ?_) | refine T.cond _ rfl (fun ht7 => ?_) (fun ht7 => ?_)
  · refine T.region ?_
    refine TL.move hF rfl rfl ?_
    refine TL.sub hF rfl rfl (by omega) (by omega) rfl ?_
    refine TL.assign hF rfl rfl ?_
    refine TL.nil ?_
    refine TQ.then_n ?_
    refine T.seq ?_
    refine T.region ?_
    refine TL.move hF rfl rfl ?_
    refine TL.assign hF rfl rfl ?_
    refine TL.nil ?_
    refine TQ.then_n ?_
    refine T.ret ?_
    refine TQ.rets [2] _ rfl rfl rfl ?_
    exact ⟨by simp [retVal, wrap32]; omega, rfl⟩
  · refine T.skip ?_
    refine TQ.then_n ?_
    refine T.seq ?_
    refine T.region ?_
    refine TL.move hF rfl rfl ?_
    refine TL.assign hF rfl rfl ?_
    refine TL.nil ?_
    refine TQ.then_n ?_
    refine T.ret ?_
    refine TQ.rets [2] _ rfl rfl rfl ?_
    exact ⟨by simp [retVal, wrap32]; omega, rfl⟩
set_option maxHeartbeats 2000000 in
theorem IsWord_fn (n : Int) :
    Rt Tryd.prog 43 [.int .i64 n].toArray S w0 η (fun v η' => v = .bool (isW n) ∧ η' = η) := by
  have hF := open_wide
  refine Rt.of (fn := Tryd.f43) Tryd.func43 rfl rfl ?_
  refine T.seq ?_
  refine T.region ?_
  refine TL.assign hF rfl rfl ?_
  refine TL.nil ?_
  refine TQ.then_n ?_
  refine T.seq ?_
  refine T.region ?_
  refine TL.move hF rfl rfl ?_
  refine TL.move hF rfl rfl ?_
  refine TL.callV hF (Word_fn n) rfl rfl ?_
  refine TL.bin hF rfl rfl rfl rfl ?_
  refine TL.assign hF rfl rfl ?_
  refine TL.nil ?_
  refine TQ.then_n ?_
  refine T.ret ?_
  refine TQ.rets [2] _ rfl rfl rfl ?_
  exact ⟨by simp only [retVal, isW]; congr 1; rw [Bool.eq_iff_iff]; simp only [decide_eq_true_eq, Bool.and_eq_true]; unfold wrap32; omega, rfl⟩
theorem head_prog {x : NodeD} (h0 : 0 ≤ x.op) (h3 : x.op ≤ 3) : okHead x = ((decide (kFrom x.op.toNat ≤ (x.fr.length : Int)) && decide ((x.fr.length : Int) ≤ kFrom x.op.toNat * 6)) && (decide (kLeast x.op.toNat ≤ x.n) && decide (x.n ≤ 2147483647))) := by
  rw [Bool.eq_iff_iff, okHead_iff]
  simp only [Bool.and_eq_true, decide_eq_true_eq, ← List.length_eq_zero_iff]
  unfold kFrom kLeast
  have : (x.op = 0 ↔ x.op.toNat = 0) := by omega
  have : (x.op = 3 ↔ x.op.toNat = 3) := by omega
  split <;> split <;> omega
theorem validA_drop {l : List NodeD} {k : Nat} (hk : k < l.length) : validA (l.drop k) k = (okNode k l[k] && validA (l.drop (k + 1)) (k + 1)) := by rw [drop_step hk, validA]
theorem okFrom_drop {fr : List Int} {i j : Nat} (hj : j < fr.length) : okFrom i (fr.drop j) = (inN fr[j] i && okFrom i (fr.drop (j + 1))) := by rw [drop_step hj]; rfl

set_option maxHeartbeats 2000000 in
theorem check_fn {a : Option Addr} {l : List NodeD} {c : Nat} (hg : Kinds S w0) (hn : Nodes S w0 [] a l) (hl : l.length < 2 ^ 63) (hfl : ∀ x ∈ l, x.fr.length < 2 ^ 63) :
    RtE Tryd.prog 36 [.slice a l.length c].toArray S w0 η (fun _ η' => valid l = true ∧ η' = η) (fun ch η' => valid l = false ∧ ch = stopV 1 ∧ η' = η) := by
  have hF := open_wide
  refine RtE.of (fn := Tryd.f36) Tryd.func36 rfl rfl ?_
  refine T.seq ?_
  refine T.region ?_
  refine TL.move hF rfl rfl ?_
  refine TL.len hF rfl rfl ?_
  refine TL.callV hF (within_fn _ _ _) rfl rfl ?_
  refine TL.callM hF (must_fn _ 1) rfl rfl (fun hA _ => ?_) (fun hA => ?_)
  · skip
    refine TL.nil ?_
    refine TQ.then_n ?_
    refine T.seq ?_
    refine T.region ?_
    refine TL.move hF rfl rfl ?_
    refine TL.len hF rfl rfl ?_
    refine TL.move hF rfl rfl ?_
    refine TL.nil ?_
    refine TQ.then_n ?_
    refine T.block ?_
    simp only [Bool.and_eq_true, decide_eq_true_eq] at hA
    have hv : valid l = validA l 0 := by unfold valid; rw [decide_eq_true (by omega), decide_eq_true (by omega)]; rfl
    refine T.loop (ι := Nat) (fun k => k ≤ l.length ∧ validA l 0 = validA (l.drop k) k) (fun k => [(11, .slice a l.length c), (12, .int .i64 (l.length : Int)), (13, .int .i64 (k : Int))]) (fun _ => η) (fun k => l.length - k) 0 ⟨Nat.zero_le _, by simp⟩ ⟨rfl, rfl, rfl, trivial⟩ rfl ?_
    rintro k ⟨hk, hs⟩
    refine T.seq ?_
    refine T.region ?_
    refine TL.bin hF rfl rfl rfl rfl ?_
    refine TL.nil ?_
    refine TQ.then_n ?_
    refine T.seq ?_
    first | refine T.cond_d rfl (fun ht14 => ?_) (fun ht14 => ?_) | refine T.cond _ rfl (fun ht14 => ?_) (fun ht14 => ?_)
    · refine T.skip ?_
      refine TQ.then_n ?_
      refine T.seq ?_
      refine T.block ?_
      refine T.seq ?_
      refine T.region ?_
      refine TL.move hF rfl rfl ?_
      refine TL.indexAddr hF rfl rfl (hn.ad (i := k) (by omega)) (by omega) (by omega) rfl ?_
      refine TL.loadA hF (l[k]'(by omega)).cells rfl rfl (hn.ro.atA (i := k) (by omega)) rfl ?_
      refine TL.alloc hF rfl (fun b3 => ?_)
      refine TL.assign hF rfl rfl ?_
      refine TL.storeAI hF (l[k]'(by omega)).cells 0 rfl rfl rfl rfl (ncells1 _) (by simp [Value.cells, ncl]) ?_
      refine TL.nil ?_
      refine TQ.then_n ?_
      refine T.seq ?_
      refine T.region ?_
      refine TL.fieldAddr hF rfl rfl ?_
      refine TL.load hF rfl (by first | exact At.own' (i := 0) rfl rfl | exact At.own' (i := 1) rfl rfl | exact At.own' (i := 2) rfl rfl | exact At.own' (i := 3) rfl rfl | exact At.own' (i := 4) rfl rfl | exact At.own' (i := 5) rfl rfl | exact At.own' (i := 6) rfl rfl | exact At.own' (i := 7) rfl rfl | exact At.own' (i := 8) rfl rfl | exact At.own' (i := 9) rfl rfl | exact At.own' (i := 10) rfl rfl | exact At.own' (i := 11) rfl rfl | exact At.own' (i := 12) rfl rfl) rfl ?_
      refine TL.callV hF (within_fn _ _ _) rfl rfl ?_
      refine TL.callM hF (must_fn _ 1) rfl rfl (fun hB _ => ?_) (fun hB => ?_)
      · skip
        refine TL.nil ?_
        refine TQ.then_n ?_
        refine T.seq ?_
        refine T.region ?_
        refine TL.fieldAddr hF rfl rfl ?_
        refine TL.load hF rfl (by first | exact At.own' (i := 0) rfl rfl | exact At.own' (i := 1) rfl rfl | exact At.own' (i := 2) rfl rfl | exact At.own' (i := 3) rfl rfl | exact At.own' (i := 4) rfl rfl | exact At.own' (i := 5) rfl rfl | exact At.own' (i := 6) rfl rfl | exact At.own' (i := 7) rfl rfl | exact At.own' (i := 8) rfl rfl | exact At.own' (i := 9) rfl rfl | exact At.own' (i := 10) rfl rfl | exact At.own' (i := 11) rfl rfl | exact At.own' (i := 12) rfl rfl) rfl ?_
        refine TL.indexAddrA hF rfl rfl (by simp at hB; omega) (by simp at hB; omega) rfl ?_
        refine TL.loadA hF (kindC (l[k]'(by omega)).op.toNat) rfl rfl (fun j v hj => by rw [Nat.zero_add]; exact hg.at (by simp at hB; omega) j hj) rfl ?_
        refine TL.alloc hF rfl (fun b4 => ?_)
        refine TL.storeAI hF (kindC (l[k]'(by omega)).op.toNat) 0 rfl rfl rfl rfl (kcells1 _) (by simp [Value.cells, kcl]) ?_
        refine TL.nil ?_
        refine TQ.then_n ?_
        refine T.seq ?_
        refine T.region ?_
        refine TL.fieldAddr hF rfl rfl ?_
        refine TL.load hF rfl (by first | exact At.own' (i := 0) rfl rfl | exact At.own' (i := 1) rfl rfl | exact At.own' (i := 2) rfl rfl | exact At.own' (i := 3) rfl rfl | exact At.own' (i := 4) rfl rfl | exact At.own' (i := 5) rfl rfl | exact At.own' (i := 6) rfl rfl | exact At.own' (i := 7) rfl rfl | exact At.own' (i := 8) rfl rfl | exact At.own' (i := 9) rfl rfl | exact At.own' (i := 10) rfl rfl | exact At.own' (i := 11) rfl rfl | exact At.own' (i := 12) rfl rfl) rfl ?_
        refine TL.len hF rfl rfl ?_
        refine TL.fieldAddr hF rfl rfl ?_
        refine TL.load hF rfl (by first | exact At.own' (i := 0) rfl rfl | exact At.own' (i := 1) rfl rfl | exact At.own' (i := 2) rfl rfl | exact At.own' (i := 3) rfl rfl | exact At.own' (i := 4) rfl rfl | exact At.own' (i := 5) rfl rfl | exact At.own' (i := 6) rfl rfl | exact At.own' (i := 7) rfl rfl | exact At.own' (i := 8) rfl rfl | exact At.own' (i := 9) rfl rfl | exact At.own' (i := 10) rfl rfl | exact At.own' (i := 11) rfl rfl | exact At.own' (i := 12) rfl rfl) rfl ?_
        refine TL.fieldAddr hF rfl rfl ?_
        refine TL.load hF rfl (by first | exact At.own' (i := 0) rfl rfl | exact At.own' (i := 1) rfl rfl | exact At.own' (i := 2) rfl rfl | exact At.own' (i := 3) rfl rfl | exact At.own' (i := 4) rfl rfl | exact At.own' (i := 5) rfl rfl | exact At.own' (i := 6) rfl rfl | exact At.own' (i := 7) rfl rfl | exact At.own' (i := 8) rfl rfl | exact At.own' (i := 9) rfl rfl | exact At.own' (i := 10) rfl rfl | exact At.own' (i := 11) rfl rfl | exact At.own' (i := 12) rfl rfl) rfl ?_
        refine TL.mul hF rfl rfl (by unfold kFrom; split <;> omega) (by unfold kFrom; split <;> omega) rfl ?_
        refine TL.callV hF (within_fn _ _ _) rfl rfl ?_
        refine TL.move hF rfl rfl ?_
        refine TL.gb (t := 35) rfl (fun g6_35 => ?_) (fun g6_35 => ?_)
        · refine TL.on rfl rfl rfl g6_35 ?_
          refine TL.fieldAddr hF rfl rfl ?_
          refine TL.on rfl rfl rfl g6_35 ?_
          refine TL.load hF rfl (by first | exact At.own' (i := 0) rfl rfl | exact At.own' (i := 1) rfl rfl | exact At.own' (i := 2) rfl rfl | exact At.own' (i := 3) rfl rfl | exact At.own' (i := 4) rfl rfl | exact At.own' (i := 5) rfl rfl | exact At.own' (i := 6) rfl rfl | exact At.own' (i := 7) rfl rfl | exact At.own' (i := 8) rfl rfl | exact At.own' (i := 9) rfl rfl | exact At.own' (i := 10) rfl rfl | exact At.own' (i := 11) rfl rfl | exact At.own' (i := 12) rfl rfl) rfl ?_
          refine TL.on rfl rfl rfl g6_35 ?_
          refine TL.fieldAddr hF rfl rfl ?_
          refine TL.on rfl rfl rfl g6_35 ?_
          refine TL.load hF rfl (by first | exact At.own' (i := 0) rfl rfl | exact At.own' (i := 1) rfl rfl | exact At.own' (i := 2) rfl rfl | exact At.own' (i := 3) rfl rfl | exact At.own' (i := 4) rfl rfl | exact At.own' (i := 5) rfl rfl | exact At.own' (i := 6) rfl rfl | exact At.own' (i := 7) rfl rfl | exact At.own' (i := 8) rfl rfl | exact At.own' (i := 9) rfl rfl | exact At.own' (i := 10) rfl rfl | exact At.own' (i := 11) rfl rfl | exact At.own' (i := 12) rfl rfl) rfl ?_
          refine TL.on rfl rfl rfl g6_35 ?_
          refine TL.callV hF (within_fn _ _ _) rfl rfl ?_
          refine TL.pickT hF rfl g6_35 rfl rfl ?_
          refine TL.callM hF (must_fn _ 1) rfl rfl (fun hC _ => ?_) (fun hC => ?_)
          · skip
            refine TL.nil ?_
            refine TQ.then_n ?_
            refine T.seq ?_
            refine T.region ?_
            refine TL.fieldAddr hF rfl rfl ?_
            refine TL.load hF rfl (by first | exact At.own' (i := 0) rfl rfl | exact At.own' (i := 1) rfl rfl | exact At.own' (i := 2) rfl rfl | exact At.own' (i := 3) rfl rfl | exact At.own' (i := 4) rfl rfl | exact At.own' (i := 5) rfl rfl | exact At.own' (i := 6) rfl rfl | exact At.own' (i := 7) rfl rfl | exact At.own' (i := 8) rfl rfl | exact At.own' (i := 9) rfl rfl | exact At.own' (i := 10) rfl rfl | exact At.own' (i := 11) rfl rfl | exact At.own' (i := 12) rfl rfl) rfl ?_
            refine TL.len hF rfl rfl ?_
            refine TL.move hF rfl rfl ?_
            refine TL.nil ?_
            refine TQ.then_n ?_
            refine T.block ?_
            have hB' : 0 ≤ (l[k]'(by omega)).op ∧ (l[k]'(by omega)).op ≤ 3 := by simpa using hB
            have hH : okHead (l[k]'(by omega)) = true := by rw [head_prog hB'.1 hB'.2, g6_35, hC]; rfl
            refine T.loop (ι := Nat) (fun j => j ≤ (l[k]'(by omega)).fr.length ∧ okFrom k (l[k]'(by omega)).fr = okFrom k ((l[k]'(by omega)).fr.drop j)) (fun j => [(11, .slice a l.length c), (12, .int .i64 (l.length : Int)), (13, .int .i64 (k : Int)), (2, .int .i64 (k : Int)), (44, .slice (l[k]'(by omega)).fa (l[k]'(by omega)).fr.length (l[k]'(by omega)).fc), (45, .int .i64 ((l[k]'(by omega)).fr.length : Int)), (46, .int .i64 (j : Int))]) (fun _ => _) (fun j => (l[k]'(by omega)).fr.length - j) 0 ⟨Nat.zero_le _, by simp⟩ ⟨rfl, rfl, rfl, rfl, rfl, rfl, rfl, trivial⟩ rfl ?_
            rintro j ⟨hj, hjs⟩
            have hfj := hfl _ (List.getElem_mem (l := l) (n := k) (by omega))
            refine T.seq ?_
            refine T.region ?_
            refine TL.bin hF rfl rfl rfl rfl ?_
            refine TL.nil ?_
            refine TQ.then_n ?_
            refine T.seq ?_
            first | refine T.cond_d rfl (fun ht47 => ?_) (fun ht47 => ?_) | refine T.cond _ rfl (fun ht47 => ?_) (fun ht47 => ?_)
            · refine T.skip ?_
              refine TQ.then_n ?_
              refine T.seq ?_
              refine T.block ?_
              refine T.seq ?_
              refine T.region ?_
              refine TL.indexAddr hF rfl rfl ((hn.frow (i := k) (by omega)).adi (i := j) (by simp; omega)) (by omega) (by omega) rfl ?_
              refine TL.load hF rfl ((hn.frow (i := k) (by omega)).ro.int (i := j) (by omega)) rfl ?_
              refine TL.assign hF rfl rfl ?_
              refine TL.nil ?_
              refine TQ.then_n ?_
              refine T.region ?_
              refine TL.move hF rfl rfl ?_
              refine TL.move hF rfl rfl ?_
              refine TL.sub hF rfl rfl (by omega) (by omega) rfl ?_
              refine TL.callV hF (within_fn _ _ _) rfl rfl ?_
              refine TL.callM hF (must_fn _ 1) rfl rfl (fun hD _ => ?_) (fun hD => ?_)
              · skip
                refine TL.nil ?_
                refine TQ.block_n ?_
                refine TQ.then_n ?_
                refine T.region ?_
                refine TL.add hF rfl rfl (by omega) (by omega) rfl ?_
                refine TL.move hF rfl rfl ?_
                refine TL.nil ?_
                refine TQ.round (j + 1) ⟨by omega, ?_⟩ (by omega) ⟨rfl, rfl, rfl, rfl, rfl, rfl, rfl, trivial⟩ rfl
                simp only [Bool.and_eq_true, decide_eq_true_eq] at hD
                rw [hjs, okFrom_drop (by omega), inN_iff.2 (by omega)]; rfl
              · skip
                refine TQ.block_p ?_
                refine TQ.then_p ?_
                refine TQ.then_p ?_
                refine TQ.block_p ?_
                refine TQ.block_p ?_
                refine TQ.then_p ?_
                refine TQ.then_p ?_
                refine TQ.block_p ?_
                refine TQ.pop (TQ.pop ?_)
                refine TQ.panicE ⟨?_, rfl, rfl⟩
                simp only [Bool.and_eq_false_iff, decide_eq_false_iff_not] at hD
                have h2 : inN ((l[k]'(by omega)).fr[j]'(by omega)) k = false := by rw [Bool.eq_false_iff]; intro h; have := inN_iff.1 h; omega
                rw [hv, hs, validA_drop (by omega), okNode, hjs, okFrom_drop (by omega), h2]; simp
            · refine T.exit ?_
              refine TQ.then_x ?_
              refine TQ.then_x ?_
              refine TQ.block_x ?_
              refine TQ.block_n ?_
              refine TQ.then_n ?_
              refine T.region ?_
              refine TL.add hF rfl rfl (by omega) (by omega) rfl ?_
              refine TL.move hF rfl rfl ?_
              refine TL.nil ?_
              refine TQ.pop ?_
              refine TQ.pop ?_
              refine TQ.round (k + 1) ⟨by omega, ?_⟩ (by omega) ⟨rfl, rfl, rfl, trivial⟩ rfl
              rw [hs, validA_drop (by omega), okNode, hH, hjs, List.drop_of_length_le (by omega)]; rfl
          · skip
            refine TQ.then_p ?_
            refine TQ.block_p ?_
            refine TQ.then_p ?_
            refine TQ.then_p ?_
            refine TQ.block_p ?_
            refine TQ.pop (TQ.pop ?_)
            refine TQ.panicE ⟨?_, rfl, rfl⟩
            have hB' : 0 ≤ (l[k]'(by omega)).op ∧ (l[k]'(by omega)).op ≤ 3 := by simpa using hB
            have hH : okHead (l[k]'(by omega)) = false := by rw [head_prog hB'.1 hB'.2, hC, Bool.and_false]
            rw [hv, hs, validA_drop (by omega), okNode, hH]; rfl
        · refine TL.off hF rfl rfl rfl g6_35 rfl ?_
          refine TL.off hF rfl rfl rfl g6_35 rfl ?_
          refine TL.off hF rfl rfl rfl g6_35 rfl ?_
          refine TL.off hF rfl rfl rfl g6_35 rfl ?_
          refine TL.off hF rfl rfl rfl g6_35 rfl ?_
          refine TL.pickF hF rfl g6_35 rfl rfl ?_
          refine TL.callM hF (must_fn _ 1) rfl rfl (fun hC _ => (by cases hC)) (fun hC => ?_)
          refine TQ.then_p ?_
          refine TQ.block_p ?_
          refine TQ.then_p ?_
          refine TQ.then_p ?_
          refine TQ.block_p ?_
          refine TQ.pop (TQ.pop ?_)
          refine TQ.panicE ⟨?_, rfl, rfl⟩
          have hB' : 0 ≤ (l[k]'(by omega)).op ∧ (l[k]'(by omega)).op ≤ 3 := by simpa using hB
          have hH : okHead (l[k]'(by omega)) = false := by rw [head_prog hB'.1 hB'.2, g6_35]; rfl
          rw [hv, hs, validA_drop (by omega), okNode, hH]; rfl
      · skip
        refine TQ.then_p ?_
        refine TQ.block_p ?_
        refine TQ.then_p ?_
        refine TQ.then_p ?_
        refine TQ.block_p ?_
        refine TQ.pop ?_
        refine TQ.panicE ⟨?_, rfl, rfl⟩
        have hB' : ¬ (0 ≤ (l[k]'(by omega)).op ∧ (l[k]'(by omega)).op ≤ 3) := by simpa using hB
        have : okHead (l[k]'(by omega)) = false := by
          rw [Bool.eq_false_iff]; intro h; have := okHead_iff.1 h; omega
        rw [hv, hs, validA_drop (by omega), okNode, this]; rfl
    · refine T.exit ?_
      refine TQ.then_x ?_
      refine TQ.then_x ?_
      refine TQ.block_x ?_
      refine TQ.norm ?_
      refine TQ.retsE [] _ rfl rfl rfl ?_
      refine ⟨?_, rfl⟩
      rw [hv, hs, List.drop_of_length_le (by omega)]; rfl
  · skip
    refine TQ.then_p ?_
    refine TQ.panicE ⟨?_, rfl, rfl⟩
    unfold valid; rw [Bool.and_eq_false_iff] at hA
    simp only [decide_eq_false_iff_not] at hA
    rw [Bool.and_eq_false_iff, Bool.and_eq_false_iff]; left; simp only [decide_eq_false_iff_not]; omega
end Go.Proofs.YtefkmiomldhmjaaDoor
/- What nodes the reference refuses; what is computed, compared; lists of what a function makes. -/
namespace Go.Proofs.YtefkmiomldhmjaaDoor
open Go.Sl
variable {S : Nat → Prop} {w0 : World} {η : Heap}
set_option maxHeartbeats 2000000 in
theorem Valid_fn {a : Option Addr} {l : List NodeD} {c : Nat} (hn : Nodes S w0 [] a l) (hl : l.length < 2 ^ 63) (hfl : ∀ x ∈ l, x.fr.length < 2 ^ 63) :
    Rt Tryd.prog 37 [.slice a l.length c].toArray S w0 η (fun v η' => v = .bool (valid l) ∧ η' = η) := by
  have hF := open_wide
  refine Rt.of (fn := Tryd.f37) Tryd.func37 rfl rfl ?_
  refine T.seq ?_
  refine T.region ?_
  refine TL.assign hF rfl rfl ?_
  refine TL.nil ?_
  refine TQ.then_n ?_
  refine T.seq ?_
  refine T.seq ?_
  refine T.region ?_
  refine TL.move hF rfl rfl ?_
  refine TL.len hF rfl rfl ?_
  refine TL.bin hF rfl rfl rfl rfl ?_
  refine TL.move hF rfl rfl ?_
  refine TL.gd (t := 9) rfl (fun g1_9 => ?_) (fun g1_9 => ?_)
  · refine TL.off hF rfl rfl rfl (decide_eq_true g1_9) rfl ?_
    refine TL.off hF rfl rfl rfl (decide_eq_true g1_9) rfl ?_
    refine TL.off hF rfl rfl rfl (decide_eq_true g1_9) rfl ?_
    refine TL.pickT hF rfl (decide_eq_true g1_9) rfl rfl ?_
    refine TL.nil ?_
    refine TQ.then_n ?_
    refine T.cond_t rfl rfl ?_
    refine T.seq ?_
    refine T.region ?_
    refine TL.assign hF rfl rfl ?_
    refine TL.nil ?_
    refine TQ.then_n ?_
    refine T.ret ?_
    refine TQ.then_r ?_
    refine TQ.rets [2] _ rfl rfl rfl ?_
    exact ⟨by simp [retVal, valid, show ¬ 1 ≤ l.length by omega], rfl⟩
  · refine TL.on rfl rfl rfl (decide_eq_false g1_9) ?_
    refine TL.move hF rfl rfl ?_
    refine TL.on rfl rfl rfl (decide_eq_false g1_9) ?_
    refine TL.len hF rfl rfl ?_
    refine TL.on rfl rfl rfl (decide_eq_false g1_9) ?_
    refine TL.bin hF rfl rfl rfl rfl ?_
    refine TL.pickF hF rfl (decide_eq_false g1_9) rfl rfl ?_
    refine TL.nil ?_
    refine TQ.then_n ?_
    first | refine T.cond_d rfl (fun ht13 => ?_) (fun ht13 => ?_) | refine T.cond _ rfl (fun ht13 => ?_) (fun ht13 => ?_)
    · refine T.seq ?_
      refine T.region ?_
      refine TL.assign hF rfl rfl ?_
      refine TL.nil ?_
      refine TQ.then_n ?_
      refine T.ret ?_
      refine TQ.then_r ?_
      refine TQ.rets [2] _ rfl rfl rfl ?_
      exact ⟨by simp [retVal, valid, show ¬ l.length ≤ 40 by omega], rfl⟩
    · refine T.skip ?_
      refine TQ.then_n ?_
      refine T.seq ?_
      refine T.seq ?_
      refine T.region ?_
      refine TL.assign hF rfl rfl ?_
      refine TL.nil ?_
      refine TQ.then_n ?_
      refine T.block ?_
      have hv : valid l = validA l 0 := by unfold valid; rw [decide_eq_true (by omega), decide_eq_true (by omega)]; rfl
      refine T.loop (ι := Nat) (fun k => k ≤ l.length ∧ validA l 0 = validA (l.drop k) k) (fun k => [(0, .slice a l.length c), (3, .int .i64 (k : Int))]) (fun _ => η) (fun k => l.length - k) 0 ⟨Nat.zero_le _, by simp⟩ ⟨rfl, rfl, trivial⟩ rfl ?_
      rintro k ⟨hk, hs⟩
      try have hfj := hfl _ (List.getElem_mem (l := l) (n := k) (by omega))
      refine T.seq ?_
      refine T.seq ?_
      refine T.region ?_
      refine TL.move hF rfl rfl ?_
      refine TL.move hF rfl rfl ?_
      refine TL.len hF rfl rfl ?_
      refine TL.bin hF rfl rfl rfl rfl ?_
      refine TL.nil ?_
      refine TQ.then_n ?_
      first | refine T.cond_d rfl (fun ht17 => ?_) (fun ht17 => ?_) | refine T.cond _ rfl (fun ht17 => ?_) (fun ht17 => ?_)
      · refine T.skip ?_
        refine TQ.then_n ?_
        refine T.seq ?_
        refine T.block ?_
        refine T.seq ?_
        refine T.region ?_
        refine TL.move hF rfl rfl ?_
        refine TL.move hF rfl rfl ?_
        refine TL.indexAddr hF rfl rfl (hn.ad (i := k) (by omega)) (by omega) (by omega) rfl ?_
        refine TL.loadA hF (l[k]'(by omega)).cells rfl rfl (hn.ro.atA (i := k) (by omega)) rfl ?_
        refine TL.alloc hF rfl (fun b4 => ?_)
        refine TL.storeAI hF (l[k]'(by omega)).cells 0 rfl rfl rfl rfl (ncells1 _) (by simp [Value.cells, ncl]) ?_
        refine TL.nil ?_
        refine TQ.then_n ?_
        refine T.seq ?_
        refine T.seq ?_
        refine T.region ?_
        refine TL.fieldAddr hF rfl rfl ?_
        refine TL.load hF rfl (by first | exact At.own' (i := 0) rfl rfl | exact At.own' (i := 1) rfl rfl | exact At.own' (i := 2) rfl rfl | exact At.own' (i := 3) rfl rfl | exact At.own' (i := 4) rfl rfl | exact At.own' (i := 5) rfl rfl | exact At.own' (i := 6) rfl rfl | exact At.own' (i := 7) rfl rfl | exact At.own' (i := 8) rfl rfl | exact At.own' (i := 9) rfl rfl | exact At.own' (i := 10) rfl rfl | exact At.own' (i := 11) rfl rfl | exact At.own' (i := 12) rfl rfl) rfl ?_
        refine TL.bin hF rfl rfl rfl rfl ?_
        refine TL.move hF rfl rfl ?_
        refine TL.gd (t := 27) rfl (fun g7_27 => ?_) (fun g7_27 => ?_)
        · refine TL.off hF rfl rfl rfl (decide_eq_true g7_27) rfl ?_
          refine TL.off hF rfl rfl rfl (decide_eq_true g7_27) rfl ?_
          refine TL.off hF rfl rfl rfl (decide_eq_true g7_27) rfl ?_
          refine TL.pickT hF rfl (decide_eq_true g7_27) rfl rfl ?_
          refine TL.move hF rfl rfl ?_
          refine TL.off hF rfl rfl rfl rfl rfl ?_
          refine TL.off hF rfl rfl rfl rfl rfl ?_
          refine TL.off hF rfl rfl rfl rfl rfl ?_
          refine TL.off hF rfl rfl rfl rfl rfl ?_
          refine TL.off hF rfl rfl rfl rfl rfl ?_
          refine TL.off hF rfl rfl rfl rfl rfl ?_
          refine TL.off hF rfl rfl rfl rfl rfl ?_
          refine TL.off hF rfl rfl rfl rfl rfl ?_
          refine TL.pickT hF rfl rfl rfl rfl ?_
          refine TL.move hF rfl rfl ?_
          refine TL.off hF rfl rfl rfl rfl rfl ?_
          refine TL.off hF rfl rfl rfl rfl rfl ?_
          refine TL.off hF rfl rfl rfl rfl rfl ?_
          refine TL.off hF rfl rfl rfl rfl rfl ?_
          refine TL.pickT hF rfl rfl rfl rfl ?_
          refine TL.nil ?_
          refine TQ.then_n ?_
          refine T.cond_t rfl rfl ?_
          refine T.seq ?_
          refine T.region ?_
          refine TL.assign hF rfl rfl ?_
          refine TL.nil ?_
          refine TQ.then_n ?_
          refine T.ret ?_
          refine TQ.then_r ?_
          refine TQ.block_r ?_
          refine TQ.then_r ?_
          refine TQ.then_r ?_
          refine TQ.block_r ?_
          refine TQ.then_r ?_
          refine TQ.pop ?_
          refine TQ.rets [2] _ rfl rfl rfl ?_
          have h1 : okHead (l[k]'(by omega)) = false := by
            rw [Bool.eq_false_iff]; intro h; have := okHead_iff.1 h; rw [← List.length_eq_zero_iff] at this; first | omega | (simp only [bne_iff_ne, ne_eq, decide_eq_decide] at g7_42; omega)
          exact ⟨by rw [hv, hs, validA_drop (by omega), okNode, h1]; rfl, rfl⟩
        · refine TL.on rfl rfl rfl (decide_eq_false g7_27) ?_
          refine TL.fieldAddr hF rfl rfl ?_
          refine TL.on rfl rfl rfl (decide_eq_false g7_27) ?_
          refine TL.load hF rfl (by first | exact At.own' (i := 0) rfl rfl | exact At.own' (i := 1) rfl rfl | exact At.own' (i := 2) rfl rfl | exact At.own' (i := 3) rfl rfl | exact At.own' (i := 4) rfl rfl | exact At.own' (i := 5) rfl rfl | exact At.own' (i := 6) rfl rfl | exact At.own' (i := 7) rfl rfl | exact At.own' (i := 8) rfl rfl | exact At.own' (i := 9) rfl rfl | exact At.own' (i := 10) rfl rfl | exact At.own' (i := 11) rfl rfl | exact At.own' (i := 12) rfl rfl) rfl ?_
          refine TL.on rfl rfl rfl (decide_eq_false g7_27) ?_
          refine TL.bin hF rfl rfl rfl rfl ?_
          refine TL.pickF hF rfl (decide_eq_false g7_27) rfl rfl ?_
          refine TL.move hF rfl rfl ?_
          refine TL.gd (t := 32) rfl (fun g7_32 => ?_) (fun g7_32 => ?_)
          · refine TL.off hF rfl rfl rfl (decide_eq_true g7_32) rfl ?_
            refine TL.off hF rfl rfl rfl (decide_eq_true g7_32) rfl ?_
            refine TL.off hF rfl rfl rfl (decide_eq_true g7_32) rfl ?_
            refine TL.off hF rfl rfl rfl (decide_eq_true g7_32) rfl ?_
            refine TL.off hF rfl rfl rfl (decide_eq_true g7_32) rfl ?_
            refine TL.off hF rfl rfl rfl (decide_eq_true g7_32) rfl ?_
            refine TL.off hF rfl rfl rfl (decide_eq_true g7_32) rfl ?_
            refine TL.off hF rfl rfl rfl (decide_eq_true g7_32) rfl ?_
            refine TL.pickT hF rfl (decide_eq_true g7_32) rfl rfl ?_
            refine TL.move hF rfl rfl ?_
            refine TL.off hF rfl rfl rfl rfl rfl ?_
            refine TL.off hF rfl rfl rfl rfl rfl ?_
            refine TL.off hF rfl rfl rfl rfl rfl ?_
            refine TL.off hF rfl rfl rfl rfl rfl ?_
            refine TL.pickT hF rfl rfl rfl rfl ?_
            refine TL.nil ?_
            refine TQ.then_n ?_
            refine T.cond_t rfl rfl ?_
            refine T.seq ?_
            refine T.region ?_
            refine TL.assign hF rfl rfl ?_
            refine TL.nil ?_
            refine TQ.then_n ?_
            refine T.ret ?_
            refine TQ.then_r ?_
            refine TQ.block_r ?_
            refine TQ.then_r ?_
            refine TQ.then_r ?_
            refine TQ.block_r ?_
            refine TQ.then_r ?_
            refine TQ.pop ?_
            refine TQ.rets [2] _ rfl rfl rfl ?_
            have h1 : okHead (l[k]'(by omega)) = false := by
              rw [Bool.eq_false_iff]; intro h; have := okHead_iff.1 h; rw [← List.length_eq_zero_iff] at this; first | omega | (simp only [bne_iff_ne, ne_eq, decide_eq_decide] at g7_42; omega)
            exact ⟨by rw [hv, hs, validA_drop (by omega), okNode, h1]; rfl, rfl⟩
          · refine TL.on rfl rfl rfl (decide_eq_false g7_32) ?_
            refine TL.fieldAddr hF rfl rfl ?_
            refine TL.on rfl rfl rfl (decide_eq_false g7_32) ?_
            refine TL.load hF rfl (by first | exact At.own' (i := 0) rfl rfl | exact At.own' (i := 1) rfl rfl | exact At.own' (i := 2) rfl rfl | exact At.own' (i := 3) rfl rfl | exact At.own' (i := 4) rfl rfl | exact At.own' (i := 5) rfl rfl | exact At.own' (i := 6) rfl rfl | exact At.own' (i := 7) rfl rfl | exact At.own' (i := 8) rfl rfl | exact At.own' (i := 9) rfl rfl | exact At.own' (i := 10) rfl rfl | exact At.own' (i := 11) rfl rfl | exact At.own' (i := 12) rfl rfl) rfl ?_
            refine TL.on rfl rfl rfl (decide_eq_false g7_32) ?_
            refine TL.bin hF rfl rfl rfl rfl ?_
            refine TL.on rfl rfl rfl (decide_eq_false g7_32) ?_
            refine TL.fieldAddr hF rfl rfl ?_
            refine TL.on rfl rfl rfl (decide_eq_false g7_32) ?_
            refine TL.load hF rfl (by first | exact At.own' (i := 0) rfl rfl | exact At.own' (i := 1) rfl rfl | exact At.own' (i := 2) rfl rfl | exact At.own' (i := 3) rfl rfl | exact At.own' (i := 4) rfl rfl | exact At.own' (i := 5) rfl rfl | exact At.own' (i := 6) rfl rfl | exact At.own' (i := 7) rfl rfl | exact At.own' (i := 8) rfl rfl | exact At.own' (i := 9) rfl rfl | exact At.own' (i := 10) rfl rfl | exact At.own' (i := 11) rfl rfl | exact At.own' (i := 12) rfl rfl) rfl ?_
            refine TL.on rfl rfl rfl (decide_eq_false g7_32) ?_
            refine TL.len hF rfl rfl ?_
            refine TL.on rfl rfl rfl (decide_eq_false g7_32) ?_
            refine TL.bin hF rfl rfl rfl rfl ?_
            refine TL.on rfl rfl rfl (decide_eq_false g7_32) ?_
            refine TL.neqB hF rfl rfl rfl ?_
            refine TL.pickF hF rfl (decide_eq_false g7_32) rfl rfl ?_
            refine TL.move hF rfl rfl ?_
            refine TL.gb (t := 42) rfl (fun g7_42 => ?_) (fun g7_42 => ?_)
            · refine TL.off hF rfl rfl rfl g7_42 rfl ?_
              refine TL.off hF rfl rfl rfl g7_42 rfl ?_
              refine TL.off hF rfl rfl rfl g7_42 rfl ?_
              refine TL.off hF rfl rfl rfl g7_42 rfl ?_
              refine TL.pickT hF rfl g7_42 rfl rfl ?_
              refine TL.nil ?_
              refine TQ.then_n ?_
              refine T.cond_t rfl rfl ?_
              refine T.seq ?_
              refine T.region ?_
              refine TL.assign hF rfl rfl ?_
              refine TL.nil ?_
              refine TQ.then_n ?_
              refine T.ret ?_
              refine TQ.then_r ?_
              refine TQ.block_r ?_
              refine TQ.then_r ?_
              refine TQ.then_r ?_
              refine TQ.block_r ?_
              refine TQ.then_r ?_
              refine TQ.pop ?_
              refine TQ.rets [2] _ rfl rfl rfl ?_
              have h1 : okHead (l[k]'(by omega)) = false := by
                rw [Bool.eq_false_iff]; intro h; have := okHead_iff.1 h; rw [← List.length_eq_zero_iff] at this; first | omega | (simp only [bne_iff_ne, ne_eq, decide_eq_decide] at g7_42; omega)
              exact ⟨by rw [hv, hs, validA_drop (by omega), okNode, h1]; rfl, rfl⟩
            · refine TL.on rfl rfl rfl g7_42 ?_
              refine TL.fieldAddr hF rfl rfl ?_
              refine TL.on rfl rfl rfl g7_42 ?_
              refine TL.load hF rfl (by first | exact At.own' (i := 0) rfl rfl | exact At.own' (i := 1) rfl rfl | exact At.own' (i := 2) rfl rfl | exact At.own' (i := 3) rfl rfl | exact At.own' (i := 4) rfl rfl | exact At.own' (i := 5) rfl rfl | exact At.own' (i := 6) rfl rfl | exact At.own' (i := 7) rfl rfl | exact At.own' (i := 8) rfl rfl | exact At.own' (i := 9) rfl rfl | exact At.own' (i := 10) rfl rfl | exact At.own' (i := 11) rfl rfl | exact At.own' (i := 12) rfl rfl) rfl ?_
              refine TL.on rfl rfl rfl g7_42 ?_
              refine TL.len hF rfl rfl ?_
              refine TL.on rfl rfl rfl g7_42 ?_
              refine TL.bin hF rfl rfl rfl rfl ?_
              refine TL.pickF hF rfl g7_42 rfl rfl ?_
              refine TL.nil ?_
              refine TQ.then_n ?_
              first | refine T.cond_d rfl (fun ht47 => ?_) (fun ht47 => ?_) | refine T.cond _ rfl (fun ht47 => ?_) (fun ht47 => ?_)
              · refine T.seq ?_
                refine T.region ?_
                refine TL.assign hF rfl rfl ?_
                refine TL.nil ?_
                refine TQ.then_n ?_
                refine T.ret ?_
                refine TQ.then_r ?_
                refine TQ.block_r ?_
                refine TQ.then_r ?_
                refine TQ.then_r ?_
                refine TQ.block_r ?_
                refine TQ.then_r ?_
                refine TQ.pop ?_
                refine TQ.rets [2] _ rfl rfl rfl ?_
                have h1 : okHead (l[k]'(by omega)) = false := by
                  rw [Bool.eq_false_iff]; intro h; have := okHead_iff.1 h; rw [← List.length_eq_zero_iff] at this; first | omega | (simp only [bne_iff_ne, ne_eq, decide_eq_decide] at g7_42; omega)
                exact ⟨by rw [hv, hs, validA_drop (by omega), okNode, h1]; rfl, rfl⟩
              · refine T.skip ?_
                refine TQ.then_n ?_
                refine T.seq ?_
                refine T.seq ?_
                refine T.region ?_
                refine TL.assign hF rfl rfl ?_
                refine TL.nil ?_
                refine TQ.then_n ?_
                refine T.block ?_
                simp only [bne_eq_false_iff_eq, decide_eq_decide] at g7_42
                refine T.loop (ι := Nat) (fun j => j ≤ (l[k]'(by omega)).fr.length ∧ okFrom k (l[k]'(by omega)).fr = okFrom k ((l[k]'(by omega)).fr.drop j)) (fun j => [(0, .slice a l.length c), (3, .int .i64 (k : Int)), (4, ptr b4), (5, .int .i64 (j : Int))]) (fun _ => _) (fun j => (l[k]'(by omega)).fr.length - j) 0 ⟨Nat.zero_le _, by simp⟩ ⟨rfl, rfl, rfl, rfl, trivial⟩ rfl ?_
                rintro j ⟨hj, hjs⟩
                have hfj := hfl _ (List.getElem_mem (l := l) (n := k) (by omega))
                refine T.seq ?_
                refine T.seq ?_
                refine T.region ?_
                refine TL.move hF rfl rfl ?_
                refine TL.fieldAddr hF rfl rfl ?_
                refine TL.load hF rfl (by first | exact At.own' (i := 0) rfl rfl | exact At.own' (i := 1) rfl rfl | exact At.own' (i := 2) rfl rfl | exact At.own' (i := 3) rfl rfl | exact At.own' (i := 4) rfl rfl | exact At.own' (i := 5) rfl rfl | exact At.own' (i := 6) rfl rfl | exact At.own' (i := 7) rfl rfl | exact At.own' (i := 8) rfl rfl | exact At.own' (i := 9) rfl rfl | exact At.own' (i := 10) rfl rfl | exact At.own' (i := 11) rfl rfl | exact At.own' (i := 12) rfl rfl) rfl ?_
                refine TL.len hF rfl rfl ?_
                refine TL.bin hF rfl rfl rfl rfl ?_
                refine TL.nil ?_
                refine TQ.then_n ?_
                first | refine T.cond_d rfl (fun ht52 => ?_) (fun ht52 => ?_) | refine T.cond _ rfl (fun ht52 => ?_) (fun ht52 => ?_)
                · refine T.skip ?_
                  refine TQ.then_n ?_
                  refine T.seq ?_
                  refine T.block ?_
                  refine T.seq ?_
                  refine T.region ?_
                  refine TL.fieldAddr hF rfl rfl ?_
                  refine TL.load hF rfl (by first | exact At.own' (i := 0) rfl rfl | exact At.own' (i := 1) rfl rfl | exact At.own' (i := 2) rfl rfl | exact At.own' (i := 3) rfl rfl | exact At.own' (i := 4) rfl rfl | exact At.own' (i := 5) rfl rfl | exact At.own' (i := 6) rfl rfl | exact At.own' (i := 7) rfl rfl | exact At.own' (i := 8) rfl rfl | exact At.own' (i := 9) rfl rfl | exact At.own' (i := 10) rfl rfl | exact At.own' (i := 11) rfl rfl | exact At.own' (i := 12) rfl rfl) rfl ?_
                  refine TL.move hF rfl rfl ?_
                  refine TL.indexAddr hF rfl rfl ((hn.frow (i := k) (by omega)).adi (i := j) (by simp; omega)) (by omega) (by omega) rfl ?_
                  refine TL.load hF rfl ((hn.frow (i := k) (by omega)).ro.int (i := j) (by omega)) rfl ?_
                  refine TL.bin hF rfl rfl rfl rfl ?_
                  refine TL.move hF rfl rfl ?_
                  refine TL.gd (t := 61) rfl (fun g12_61 => ?_) (fun g12_61 => ?_)
                  · refine TL.off hF rfl rfl rfl (decide_eq_true g12_61) rfl ?_
                    refine TL.off hF rfl rfl rfl (decide_eq_true g12_61) rfl ?_
                    refine TL.off hF rfl rfl rfl (decide_eq_true g12_61) rfl ?_
                    refine TL.off hF rfl rfl rfl (decide_eq_true g12_61) rfl ?_
                    refine TL.off hF rfl rfl rfl (decide_eq_true g12_61) rfl ?_
                    refine TL.off hF rfl rfl rfl (decide_eq_true g12_61) rfl ?_
                    refine TL.off hF rfl rfl rfl (decide_eq_true g12_61) rfl ?_
                    refine TL.pickT hF rfl (decide_eq_true g12_61) rfl rfl ?_
                    refine TL.nil ?_
                    refine TQ.then_n ?_
                    refine T.cond_t rfl rfl ?_
                    refine T.seq ?_
                    refine T.region ?_
                    refine TL.assign hF rfl rfl ?_
                    refine TL.nil ?_
                    refine TQ.then_n ?_
                    refine T.ret ?_
                    refine TQ.block_r ?_
                    refine TQ.then_r ?_
                    refine TQ.then_r ?_
                    refine TQ.block_r ?_
                    refine TQ.then_r ?_
                    refine TQ.block_r ?_
                    refine TQ.then_r ?_
                    refine TQ.then_r ?_
                    refine TQ.block_r ?_
                    refine TQ.then_r ?_
                    refine TQ.pop ?_
                    refine TQ.rets [2] _ rfl rfl rfl ?_
                    have h2 : inN ((l[k]'(by omega)).fr[j]'(by omega)) k = false := by rw [Bool.eq_false_iff]; intro h; have := inN_iff.1 h; omega
                    exact ⟨by rw [hv, hs, validA_drop (by omega), okNode, hjs, okFrom_drop (by omega), h2]; simp [retVal], rfl⟩
                  · refine TL.on rfl rfl rfl (decide_eq_false g12_61) ?_
                    refine TL.fieldAddr hF rfl rfl ?_
                    refine TL.on rfl rfl rfl (decide_eq_false g12_61) ?_
                    refine TL.load hF rfl (by first | exact At.own' (i := 0) rfl rfl | exact At.own' (i := 1) rfl rfl | exact At.own' (i := 2) rfl rfl | exact At.own' (i := 3) rfl rfl | exact At.own' (i := 4) rfl rfl | exact At.own' (i := 5) rfl rfl | exact At.own' (i := 6) rfl rfl | exact At.own' (i := 7) rfl rfl | exact At.own' (i := 8) rfl rfl | exact At.own' (i := 9) rfl rfl | exact At.own' (i := 10) rfl rfl | exact At.own' (i := 11) rfl rfl | exact At.own' (i := 12) rfl rfl) rfl ?_
                    refine TL.on rfl rfl rfl (decide_eq_false g12_61) ?_
                    refine TL.move hF rfl rfl ?_
                    refine TL.on rfl rfl rfl (decide_eq_false g12_61) ?_
                    refine TL.indexAddr hF rfl rfl ((hn.frow (i := k) (by omega)).adi (i := j) (by simp; omega)) (by omega) (by omega) rfl ?_
                    refine TL.on rfl rfl rfl (decide_eq_false g12_61) ?_
                    refine TL.load hF rfl ((hn.frow (i := k) (by omega)).ro.int (i := j) (by omega)) rfl ?_
                    refine TL.on rfl rfl rfl (decide_eq_false g12_61) ?_
                    refine TL.move hF rfl rfl ?_
                    refine TL.on rfl rfl rfl (decide_eq_false g12_61) ?_
                    refine TL.bin hF rfl rfl rfl rfl ?_
                    refine TL.pickF hF rfl (decide_eq_false g12_61) rfl rfl ?_
                    refine TL.nil ?_
                    refine TQ.then_n ?_
                    first | refine T.cond_d rfl (fun ht69 => ?_) (fun ht69 => ?_) | refine T.cond _ rfl (fun ht69 => ?_) (fun ht69 => ?_)
                    · refine T.seq ?_
                      refine T.region ?_
                      refine TL.assign hF rfl rfl ?_
                      refine TL.nil ?_
                      refine TQ.then_n ?_
                      refine T.ret ?_
                      refine TQ.block_r ?_
                      refine TQ.then_r ?_
                      refine TQ.then_r ?_
                      refine TQ.block_r ?_
                      refine TQ.then_r ?_
                      refine TQ.block_r ?_
                      refine TQ.then_r ?_
                      refine TQ.then_r ?_
                      refine TQ.block_r ?_
                      refine TQ.then_r ?_
                      refine TQ.pop ?_
                      refine TQ.rets [2] _ rfl rfl rfl ?_
                      have h2 : inN ((l[k]'(by omega)).fr[j]'(by omega)) k = false := by rw [Bool.eq_false_iff]; intro h; have := inN_iff.1 h; omega
                      exact ⟨by rw [hv, hs, validA_drop (by omega), okNode, hjs, okFrom_drop (by omega), h2]; simp [retVal], rfl⟩
                    · refine T.skip ?_
                      refine TQ.block_n ?_
                      refine TQ.then_n ?_
                      refine T.region ?_
                      refine TL.move hF rfl rfl ?_
                      refine TL.add hF rfl rfl (by omega) (by omega) rfl ?_
                      refine TL.assign hF rfl rfl ?_
                      refine TL.nil ?_
                      refine TQ.round (j + 1) ⟨by omega, ?_⟩ (by omega) ⟨rfl, rfl, rfl, rfl, trivial⟩ rfl
                      rw [hjs, okFrom_drop (by omega), inN_iff.2 (by omega)]; rfl
                · refine T.exit ?_
                  refine TQ.then_x ?_
                  refine TQ.then_x ?_
                  refine TQ.block_x ?_
                  refine TQ.then_n ?_
                  refine T.seq ?_
                  refine T.region ?_
                  refine TL.fieldAddr hF rfl rfl ?_
                  refine TL.load hF rfl (by first | exact At.own' (i := 0) rfl rfl | exact At.own' (i := 1) rfl rfl | exact At.own' (i := 2) rfl rfl | exact At.own' (i := 3) rfl rfl | exact At.own' (i := 4) rfl rfl | exact At.own' (i := 5) rfl rfl | exact At.own' (i := 6) rfl rfl | exact At.own' (i := 7) rfl rfl | exact At.own' (i := 8) rfl rfl | exact At.own' (i := 9) rfl rfl | exact At.own' (i := 10) rfl rfl | exact At.own' (i := 11) rfl rfl | exact At.own' (i := 12) rfl rfl) rfl ?_
                  refine TL.callV hF (IsWord_fn _) rfl rfl ?_
                  refine TL.not hF rfl rfl ?_
                  refine TL.move hF rfl rfl ?_
                  refine TL.gb (t := 74) rfl (fun g14_74 => ?_) (fun g14_74 => ?_)
                  · refine TL.off hF rfl rfl rfl g14_74 rfl ?_
                    refine TL.off hF rfl rfl rfl g14_74 rfl ?_
                    refine TL.off hF rfl rfl rfl g14_74 rfl ?_
                    refine TL.off hF rfl rfl rfl g14_74 rfl ?_
                    refine TL.offU hF rfl rfl rfl rfl ?_
                    refine TL.offU hF rfl rfl rfl rfl ?_
                    refine TL.offU hF rfl rfl rfl rfl ?_
                    refine TL.off hF rfl rfl rfl g14_74 rfl ?_
                    refine TL.pickT hF rfl g14_74 rfl rfl ?_
                    refine TL.nil ?_
                    refine TQ.then_n ?_
                    refine T.cond_t rfl rfl ?_
                    refine T.seq ?_
                    refine T.region ?_
                    refine TL.assign hF rfl rfl ?_
                    refine TL.nil ?_
                    refine TQ.then_n ?_
                    refine T.ret ?_
                    refine TQ.block_r ?_
                    refine TQ.then_r ?_
                    refine TQ.then_r ?_
                    refine TQ.block_r ?_
                    refine TQ.then_r ?_
                    refine TQ.pop ?_
                    refine TQ.rets [2] _ rfl rfl rfl ?_
                    have h1 : okHead (l[k]'(by omega)) = false := by
                      rw [Bool.eq_false_iff]; intro h; have := okHead_iff.1 h; simp at g14_74; rw [← isW_iff] at this; simp_all
                    exact ⟨by rw [hv, hs, validA_drop (by omega), okNode, h1]; rfl, rfl⟩
                  · refine TL.on rfl rfl rfl g14_74 ?_
                    refine TL.fieldAddr hF rfl rfl ?_
                    refine TL.on rfl rfl rfl g14_74 ?_
                    refine TL.load hF rfl (by first | exact At.own' (i := 0) rfl rfl | exact At.own' (i := 1) rfl rfl | exact At.own' (i := 2) rfl rfl | exact At.own' (i := 3) rfl rfl | exact At.own' (i := 4) rfl rfl | exact At.own' (i := 5) rfl rfl | exact At.own' (i := 6) rfl rfl | exact At.own' (i := 7) rfl rfl | exact At.own' (i := 8) rfl rfl | exact At.own' (i := 9) rfl rfl | exact At.own' (i := 10) rfl rfl | exact At.own' (i := 11) rfl rfl | exact At.own' (i := 12) rfl rfl) rfl ?_
                    refine TL.on rfl rfl rfl g14_74 ?_
                    refine TL.bin hF rfl rfl rfl rfl ?_
                    refine TL.on rfl rfl rfl g14_74 ?_
                    refine TL.move hF rfl rfl ?_
                    refine TL.gd (t := 78) rfl (fun g14_78 => ?_) (fun g14_78 => ?_)
                    · refine TL.on rfl rfl rfl (decide_eq_true g14_78) ?_
                      refine TL.fieldAddr hF rfl rfl ?_
                      refine TL.on rfl rfl rfl (decide_eq_true g14_78) ?_
                      refine TL.load hF rfl (by first | exact At.own' (i := 0) rfl rfl | exact At.own' (i := 1) rfl rfl | exact At.own' (i := 2) rfl rfl | exact At.own' (i := 3) rfl rfl | exact At.own' (i := 4) rfl rfl | exact At.own' (i := 5) rfl rfl | exact At.own' (i := 6) rfl rfl | exact At.own' (i := 7) rfl rfl | exact At.own' (i := 8) rfl rfl | exact At.own' (i := 9) rfl rfl | exact At.own' (i := 10) rfl rfl | exact At.own' (i := 11) rfl rfl | exact At.own' (i := 12) rfl rfl) rfl ?_
                      refine TL.on rfl rfl rfl (decide_eq_true g14_78) ?_
                      refine TL.bin hF rfl rfl rfl rfl ?_
                      refine TL.on rfl rfl rfl g14_74 ?_
                      refine TL.pickT hF rfl (decide_eq_true g14_78) rfl rfl ?_
                      refine TL.pickF hF rfl g14_74 rfl rfl ?_
                      refine TL.nil ?_
                      refine TQ.then_n ?_
                      first | refine T.cond_d rfl (fun ht83 => ?_) (fun ht83 => ?_) | refine T.cond _ rfl (fun ht83 => ?_) (fun ht83 => ?_)
                      · refine T.seq ?_
                        refine T.region ?_
                        refine TL.assign hF rfl rfl ?_
                        refine TL.nil ?_
                        refine TQ.then_n ?_
                        refine T.ret ?_
                        refine TQ.block_r ?_
                        refine TQ.then_r ?_
                        refine TQ.then_r ?_
                        refine TQ.block_r ?_
                        refine TQ.then_r ?_
                        refine TQ.pop ?_
                        refine TQ.rets [2] _ rfl rfl rfl ?_
                        have h1 : okHead (l[k]'(by omega)) = false := by
                          rw [Bool.eq_false_iff]; intro h; have := okHead_iff.1 h; rw [← List.length_eq_zero_iff] at this; first | omega | (simp only [bne_iff_ne, ne_eq, decide_eq_decide] at g7_42; omega)
                        exact ⟨by rw [hv, hs, validA_drop (by omega), okNode, h1]; rfl, rfl⟩
                      · refine T.skip ?_
                        refine TQ.block_n ?_
                        refine TQ.then_n ?_
                        refine T.region ?_
                        refine TL.move hF rfl rfl ?_
                        refine TL.add hF rfl rfl (by omega) (by omega) rfl ?_
                        refine TL.assign hF rfl rfl ?_
                        refine TL.nil ?_
                        refine TQ.pop ?_
                        refine TQ.round (k + 1) ⟨by omega, ?_⟩ (by omega) ⟨rfl, rfl, trivial⟩ rfl
                        simp at g14_74
                        have h1 : okHead (l[k]'(by omega)) = true := okHead_iff.2 ⟨by omega, by omega, by rw [← List.length_eq_zero_iff]; omega, by omega, isW_iff.1 g14_74, by omega⟩
                        rw [hs, validA_drop (by omega), okNode, h1, hjs, List.drop_of_length_le (by omega)]; rfl
                    · refine TL.off hF rfl rfl rfl (decide_eq_false g14_78) rfl ?_
                      refine TL.off hF rfl rfl rfl (decide_eq_false g14_78) rfl ?_
                      refine TL.off hF rfl rfl rfl (decide_eq_false g14_78) rfl ?_
                      refine TL.on rfl rfl rfl g14_74 ?_
                      refine TL.pickF hF rfl (decide_eq_false g14_78) rfl rfl ?_
                      refine TL.pickF hF rfl g14_74 rfl rfl ?_
                      refine TL.nil ?_
                      refine TQ.then_n ?_
                      refine T.cond_f rfl rfl ?_
                      refine T.skip ?_
                      refine TQ.block_n ?_
                      refine TQ.then_n ?_
                      refine T.region ?_
                      refine TL.move hF rfl rfl ?_
                      refine TL.add hF rfl rfl (by omega) (by omega) rfl ?_
                      refine TL.assign hF rfl rfl ?_
                      refine TL.nil ?_
                      refine TQ.pop ?_
                      refine TQ.round (k + 1) ⟨by omega, ?_⟩ (by omega) ⟨rfl, rfl, trivial⟩ rfl
                      simp at g14_74
                      have h1 : okHead (l[k]'(by omega)) = true := okHead_iff.2 ⟨by omega, by omega, by rw [← List.length_eq_zero_iff]; omega, by omega, isW_iff.1 g14_74, by omega⟩
                      rw [hs, validA_drop (by omega), okNode, h1, hjs, List.drop_of_length_le (by omega)]; rfl
      · refine T.exit ?_
        refine TQ.then_x ?_
        refine TQ.then_x ?_
        refine TQ.block_x ?_
        refine TQ.then_n ?_
        refine T.seq ?_
        refine T.region ?_
        refine TL.assign hF rfl rfl ?_
        refine TL.nil ?_
        refine TQ.then_n ?_
        refine T.ret ?_
        refine TQ.rets [2] _ rfl rfl rfl ?_
        exact ⟨by rw [hv, hs, List.drop_of_length_le (by omega)]; rfl, rfl⟩
end Go.Proofs.YtefkmiomldhmjaaDoor
