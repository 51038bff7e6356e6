/- Several texts in one. -/
import Derived.Test.YtfnalecnnmkgbaaDoorTa
import Derived.ProofKit
import Derived.Deep.Slices
import Derived.Laws.StructEq
import Derived.Shelf.SlSortCmp.NoneTotal
/- Results in memory; parts of arrays that are written; calls through interfaces that may panic; a copy. -/
namespace Go.Sl
section
variable {F : Fence} {P : Program} {S : Nat → Prop} {w0 w : World} {n : Nat} {Q : Exit → Act → World → Prop} {ds : List Deferred} {σ : Env} {η : Heap} {ops : Array Oper} {rest : List Oper} {d : Nat} {ty : TypeId} {pos : String} {af : Array Edge}

theorem run_loadCells {cs : List Value} {sz b o : Nat} (hl : cs.length = sz) (hv : ∀ i v, cs[i]? = some v → At S w0 η ⟨b, o + i, none⟩ v) (hh : Hp S w0 η w) : (loadCells ⟨b, o, none⟩ sz).run P w = .ok cs.toArray w := by
  unfold loadCells
  rw [run_loadCellsFrom rfl (fun i => cs.getD i undef) sz 0 #[] (fun j _ h2 => by
    have h3 : cs[j]? = some (cs.getD j undef) := by
      have : j < cs.length := by omega
      simp [List.getD_eq_getElem?_getD, this]
    have h4 := (hv j _ h3).cell hh
    have : (⟨b, o, none⟩ : Addr).add j = ⟨b, o + j, none⟩ := by
      unfold Addr.add; split
      · subst_vars; rfl
      · rfl
    rw [this]; exact h4)]
  congr 1
  simp only [Array.empty_append]
  congr 1
  apply List.ext_getElem?
  intro i
  rw [List.getElem?_map]
  by_cases hi : i < sz
  · rw [List.getElem?_range' hi]; simp [List.getD_eq_getElem?_getD, hl, hi]
  · simp [hl, hi]

/-- The end of a function whose one result lies in memory: several cells. -/
theorem TQ.retC {fn : Func} {c : Nat} {ct : TypeId} [Ag P ct true] {z : Value} {sz bt : Nat} [Inf P ct z sz bt] (cs : List Value) {b : Nat} {R : Value → Heap → Prop} (η2 : Heap) (hr : fn.results = #[ResultVar.cell c ct]) (hc : lk σ c = some (.pointer (some ⟨b, 0, none⟩)))
    (hl : cs.length = sz) (hv : ∀ i v, cs[i]? = some v → At S w0 η ⟨b, 0 + i, none⟩ v) (hs : η2.Sublist η) (hR : R (.agg cs.toArray) η2) : TQ S w0 n (bodyPost P fn (post R S w0) .ret) [] σ η := fun a w hk hh => by
  refine ⟨hk.defers, .agg cs.toArray, ?_, _, η2, rfl, hh.seg hs, hR⟩
  have hc2 := hk.slot _ _ hc
  unfold results
  rw [hr]
  simp [Array.getD_eq_getD_getElem?, hc2, asAddr, loadVar, Ag.eq (t := ct) (b := true), run_sizeOf (t := ct) (z := z) (sz := sz) (bt := bt), run_loadCells hl hv hh]
/-- The same: one cell. -/
theorem TQ.retC1 {fn : Func} {c : Nat} {ct : TypeId} [Ag P ct false] {b : Nat} {x : Value} {R : Value → Heap → Prop} (η2 : Heap) (hr : fn.results = #[ResultVar.cell c ct]) (hc : lk σ c = some (.pointer (some ⟨b, 0, none⟩)))
    (hx : At S w0 η ⟨b, 0, none⟩ x) (hs : η2.Sublist η) (hR : R x η2) : TQ S w0 n (bodyPost P fn (post R S w0) .ret) [] σ η := fun a w hk hh => by
  refine ⟨hk.defers, x, ?_, _, η2, rfl, hh.seg hs, hR⟩
  have hc2 := hk.slot _ _ hc
  unfold results
  rw [hr]
  simp [Array.getD_eq_getD_getElem?, hc2, asAddr, run_loadVar1 (hx.cell hh)]

/-- A store of several cells in the midst of a block. -/
theorem TL.storeAs (hF : Open F) {t : TypeId} {z : Value} {sz bt : Nat} [Inf P t z sz bt] {x y : Operand} {b o : Nat} (vs new : List Value) (i : Nat) {cs : List Value} {e : TypeId} (hx : ev σ x = some (.pointer (some ⟨b, o, none⟩))) (hy : ev σ y = some (.agg vs.toArray))
    (hi : η[i]? = some [(b, .cells cs.toArray e (0, 0))]) (hl : vs.length = sz) (hv : ∀ v ∈ vs, v.oneCell' = true) (ho : o + sz ≤ cs.length) (hnew : cs.take o ++ vs ++ cs.drop (o + vs.length) = new) (h : TL F P S w0 n ops Q rest ds σ (η.set i [(b, .cells new.toArray e (0, 0))])) :
    TL F P S w0 n ops Q (⟨none, .store t x y, ty, pos, af, none⟩ :: rest) ds σ η := by
  refine TL.storeAI hF (z := z) (bt := bt) vs i hx hy hi hl hv (by simpa using ho) ?_
  rw [foldl_set vs cs.toArray o (by simp; omega)]
  rw [hnew]; exact h

theorem TL.invokeE (hF : Open F) {rv : Operand} {m : String} {args : Array Operand} {ats : Array TypeId} {g : FuncId} {t : TypeId} {x rcv : Value} {vs : List Value} [Ent P g] {R : Value → Heap → Prop} {E : List PanicEntry → Heap → Prop}
    (hrv : ev σ rv = some (.iface t x)) (ha : evs σ args.toList = some vs) (hm : ∀ w, (method (P.types.size + Made.depth) t x m).run P w = .ok (g, rcv) w)
    (hc : RtE P g (rcv :: vs).toArray S w0 η R E) (hn : Nat.blt d n = true) (h : ∀ v η', R v η' → TL F P S w0 n ops Q rest ds ((d, v) :: σ) η') (he : ∀ ch η', E ch η' → TQ S w0 n (Q (.panic ch)) ds σ η') :
    TL F P S w0 n ops Q (⟨some d, .call ⟨.invoke rv m, args, ats⟩, ty, pos, af, none⟩ :: rest) ds σ η :=
  TL.invokeG hF hrv ha hm hc (fun v η' hr _a _w hk hh => h v η' hr _ _ (hk.put (Nat.le_of_ble_eq_true hn) v) hh) he

/-- A look into a map of booleans. -/
theorem TL.lookupB (hF : Open F) {t kt et : TypeId} [Und P t (.map kt et)] {sz bt : Nat} [Inf P et (.bool false) sz bt] {α : Type} [DecidableEq α] {K : α → Value} [MKey P kt K] {m : List (α × Bool)} {es : Array MapEntry} {clock b : Nat} (k : α)
    {x y : Operand} (hx : ev σ x = some (.map (some b))) (hy : ev σ y = some (K k)) (hb : [(b, .map es clock)] ∈ η) (hm : MObj K Value.bool m es clock) (hn : Nat.blt d n = true)
    (h : TL F P S w0 n ops Q rest ds ((d, .bool ((mget k m).getD false)) :: σ) η) : TL F P S w0 n ops Q (⟨some d, .lookup t x y false, ty, pos, af, none⟩ :: rest) ds σ η :=
  TL.lookup hF Value.bool k hx hy hb hm hn (by
    have e : (mget k m).elim (Value.bool false) Value.bool = .bool ((mget k m).getD false) := by cases mget k m <;> rfl
    rw [e]; exact h)
theorem TL.lookupOkB (hF : Open F) {t kt et : TypeId} [Und P t (.map kt et)] {sz bt : Nat} [Inf P et (.bool false) sz bt] {α : Type} [DecidableEq α] {K : α → Value} [MKey P kt K] {m : List (α × Bool)} {es : Array MapEntry} {clock b : Nat} (k : α)
    {x y : Operand} (hx : ev σ x = some (.map (some b))) (hy : ev σ y = some (K k)) (hb : [(b, .map es clock)] ∈ η) (hm : MObj K Value.bool m es clock) (hn : Nat.blt d n = true)
    (h : TL F P S w0 n ops Q rest ds ((d, .tuple #[.bool ((mget k m).getD false), .bool (mget k m).isSome]) :: σ) η) : TL F P S w0 n ops Q (⟨some d, .lookup t x y true, ty, pos, af, none⟩ :: rest) ds σ η :=
  TL.lookupOk hF Value.bool k hx hy hb hm hn (by
    have e : (mget k m).elim (Value.bool false) Value.bool = .bool ((mget k m).getD false) := by cases mget k m <;> rfl
    rw [e]; exact h)
theorem own_list {b i : Nat} {cs : List Value} {e : TypeId} {fz : Nat × Nat} (h : η[i]? = some [(b, Obj.cells cs.toArray e fz)]) : ∀ j v, cs[j]? = some v → At S w0 η ⟨b, 0 + j, none⟩ v := fun j v hj => by
  rw [Nat.zero_add]; exact At.own' h (by simpa using hj)
/-- A call that goes through, or panics, and turns nothing. -/
theorem TL.callM (hF : Open F) {f : Operand} {args : Array Operand} {ats : Array TypeId} {g : FuncId} {al : List Value} [Ent P g] {A B : Prop} {c0 : List PanicEntry}
    (hc : RtE P g al.toArray S w0 η (fun _ η' => A ∧ η' = η) (fun ch η' => B ∧ ch = c0 ∧ η' = η)) (ha : callOf σ f args = some (g, al)) (hn : Nat.blt d n = true) (h : A → ∀ v, TL F P S w0 n ops Q rest ds ((d, v) :: σ) η) (he : B → TQ S w0 n (Q (.panic c0)) ds σ η) :
    TL F P S w0 n ops Q (⟨some d, .call ⟨.value f, args, ats⟩, ty, pos, af, none⟩ :: rest) ds σ η :=
  TL.callE hF hc ha hn (fun v η' hr => by obtain ⟨h1, rfl⟩ := hr; exact h h1 v) (fun ch η' hr => by obtain ⟨h1, rfl, rfl⟩ := hr; exact he h1)
theorem TL.invokeM (hF : Open F) {rv : Operand} {m : String} {args : Array Operand} {ats : Array TypeId} {g : FuncId} {t : TypeId} {x rcv : Value} {vs : List Value} [Ent P g] {A B : Prop} {c0 : List PanicEntry}
    (hrv : ev σ rv = some (.iface t x)) (ha : evs σ args.toList = some vs) (hm : ∀ w, (method (P.types.size + Made.depth) t x m).run P w = .ok (g, rcv) w)
    (hc : RtE P g (rcv :: vs).toArray S w0 η (fun _ η' => A ∧ η' = η) (fun ch η' => B ∧ ch = c0 ∧ η' = η)) (hn : Nat.blt d n = true) (h : A → ∀ v, TL F P S w0 n ops Q rest ds ((d, v) :: σ) η) (he : B → TQ S w0 n (Q (.panic c0)) ds σ η) :
    TL F P S w0 n ops Q (⟨some d, .call ⟨.invoke rv m, args, ats⟩, ty, pos, af, none⟩ :: rest) ds σ η :=
  TL.invokeE hF hrv ha hm hc hn (fun v η' hr => by obtain ⟨h1, rfl⟩ := hr; exact h h1 v) (fun ch η' hr => by obtain ⟨h1, rfl, rfl⟩ := hr; exact he h1)
end
end Go.Sl
/- Ranges over functions: their ends; loops that leave marks. -/
namespace Go.Sl
section
variable {F : Fence} {P : Program} {S : Nat → Prop} {w0 w : World} {n : Nat} {Q : Exit → Act → World → Prop} {ds : List Deferred} {σ : Env} {η : Heap} {ops : Array Oper} {rest : List Oper} {d : Nat} {ty : TypeId} {pos : String} {af : Array Edge}

theorem TQ.swapT {tl tl' : Heap} {body : Code} {Q' : Exit → Act → World → Prop} (η1 : Heap) (he : η = η1 ++ tl) (h : T F P S w0 n Q body ds σ (η1 ++ tl')) : TQ S w0 n (Exit.then (Swap S w0 tl tl' fun a w => body.wpIn F 0 P Q a w) Q' .normal) ds σ η := TQ.swap η1 he h

theorem own_listM {b : Nat} {cs : List Value} {e : TypeId} {fz : Nat × Nat} (h : [(b, Obj.cells cs.toArray e fz)] ∈ η) : ∀ j v, cs[j]? = some v → At S w0 η ⟨b, 0 + j, none⟩ v := fun j v hj => by
  rw [Nat.zero_add]; exact .own _ h cs.toArray e fz (by simp) (by simpa using hj) rfl

/-- The end of a function behind its marks. -/
theorem TQ.retL0 {fn : Func} (ts : List Nat) (vs : List Value) {v : Value} {R : Value → Heap → Prop} (hr : fn.results = (ts.map ResultVar.tmp).toArray) (hv : lks σ ts = some vs) (he : retVal vs = v) (hR : R v η) :
    TQ S w0 n (bodyPostL P fn (post R S w0) .ret) [] σ η := fun a w hk hh => by
  show Lv P fn a.tmps (post R S w0) a.defers .returning w
  rw [hk.defers]
  exact ⟨v, by rw [results_run hr hk (lks_map hv), retVal_eq, he], v, η, rfl, hh, hR⟩
theorem TQ.retLC1 {fn : Func} {c : Nat} {ct : TypeId} [Ag P ct false] {b : Nat} {x : Value} {R : Value → Heap → Prop} (η2 : Heap) (hr : fn.results = #[ResultVar.cell c ct]) (hc : lk σ c = some (.pointer (some ⟨b, 0, none⟩)))
    (hx : At S w0 η ⟨b, 0, none⟩ x) (hs : η2.Sublist η) (hR : R x η2) : TQ S w0 n (bodyPostL P fn (post R S w0) .ret) [] σ η := fun a w hk hh => by
  show Lv P fn a.tmps (post R S w0) a.defers .returning w
  rw [hk.defers]
  refine ⟨x, ?_, x, η2, rfl, hh.seg hs, hR⟩
  have hc2 := hk.slot _ _ hc
  unfold results
  rw [hr]
  simp [Array.getD_eq_getD_getElem?, hc2, asAddr, run_loadVar1 (hx.cell hh)]

/-- Marks, and their places. -/
def marksH (rs : List Nat) : Heap := rs.map fun r => [(r, .deferred (some []))]
theorem TQ.marks {fn : Func} {R : Value → Heap → Prop} {e : Exit} {dsr : List Deferred} (he : e = .ret ∨ ∃ ch, e = .panic ch) (h : TQ S w0 n (bodyPostL P fn (post R S w0) e) dsr σ η) :
    ∀ rs : List Nat, TQ S w0 n (bodyPostL P fn (post R S w0) e) (marksOf rs ++ dsr) σ (marksH rs ++ η)
  | [] => h
  | _r :: rs => TQ.mark (i := 0) he rfl (TQ.pop (TQ.marks he h rs))

/-- A loop whose rounds leave marks. -/
theorem T.loopD {c : Code} {ι : Type} (J : ι → Prop) (sg : ι → Env) (hp : ι → Heap) (sd : ι → List Deferred) (μ : ι → Nat) (i0 : ι) (h0 : J i0) (hs : Sub (sg i0) σ) (he : η = hp i0) (hd : ds = sd i0)
    (round : ∀ i, J i → T F P S w0 n (Exit.then (fun a w => ∃ j, J j ∧ μ j < μ i ∧ Kn n (sd j) (sg j) a ∧ Hp S w0 (hp j) w) Q) c (sd i) (sg i) (hp i)) :
    T F P S w0 n Q (.loop c) ds σ η := fun a w hk hh => by
  refine wpIn_loopR (fun m a w => ∃ i, J i ∧ μ i = m ∧ Kn n (sd i) (sg i) a ∧ Hp S w0 (hp i) w) ?_ (m := μ i0) ⟨i0, h0, rfl, hd ▸ hk.sub hs, he ▸ hh⟩
  rintro m a w ⟨i, hi, rfl, hk, hh⟩
  refine wpIn_mono (round i hi a w hk hh) ?_
  intro e a' w' hq
  cases e with
  | normal => obtain ⟨j, h1, h2, h3, h4⟩ := hq; exact ⟨_, h2, j, h1, rfl, h3, h4⟩
  | _ => exact hq
theorem TQ.roundD {ι : Type} {J : ι → Prop} {sg : ι → Env} {hp : ι → Heap} {sd : ι → List Deferred} {μ : ι → Nat} {i : ι} (j : ι) (hj : J j) (hm : μ j < μ i) (hs : Sub (sg j) σ) (he : η = hp j) (hd : ds = sd j) :
    TQ S w0 n (Exit.then (fun a w => ∃ j, J j ∧ μ j < μ i ∧ Kn n (sd j) (sg j) a ∧ Hp S w0 (hp j) w) Q .normal) ds σ η := fun _ _ hk hh => ⟨j, hj, hm, hd ▸ hk.sub hs, he ▸ hh⟩
end
end Go.Sl
/- Copies. -/
namespace Go.Sl
section
variable {F : Fence} {P : Program} {S : Nat → Prop} {w0 w : World} {n : Nat} {Q : Exit → Act → World → Prop} {ds : List Deferred} {σ : Env} {η : Heap} {ops : Array Oper} {rest : List Oper} {d : Nat} {ty : TypeId} {pos : String} {af : Array Edge}

/-- A copy, into a part of an owned block. -/
theorem TL.copy (hF : Open F) (i : Nat) {t ts e : TypeId} [Und P t (.slice e)] {z : Value} {sz bt : Nat} [Inf P e z sz bt] {x y : Operand} {g o dl dc m mc k : Nat} {a : Option Addr} {cs : List Value} {e' : TypeId} (news new : List Value) (hx : ev σ x = some (.slice (some ⟨g, o, none⟩) dl dc)) (hy : ev σ y = some (.slice a m mc))
    (hi : η[i]? = some [(g, .cells cs.toArray e' (0, 0))]) (hk : k = min m dl) (hs : Row S w0 η a news) (hl : news.length = k * sz) (h1 : ∀ u ∈ news, u.oneCell' = true) (ho : o + k * sz ≤ cs.length) (hnew : cs.take o ++ news ++ cs.drop (o + k * sz) = new) (hn : Nat.blt d n = true)
    (h : TL F P S w0 n ops Q rest ds ((d, .int .i64 (k : Int)) :: σ) (η.set i [(g, .cells new.toArray e' (0, 0))])) :
    TL F P S w0 n ops Q (⟨some d, .call ⟨.builtin .copy, #[x, y], #[t, ts]⟩, ty, pos, af, none⟩ :: rest) ds σ η :=
  TL.val hF (by intro c; simp) hn fun b w hkn hh => by
    have hg := hh.inMem (List.mem_of_getElem? hi)
    have hfc : (Builtin.firstCells sz k (.slice a m mc)).run P w = .ok news.toArray w := by
      have h0 := run_firstCells (P := P) (m := k) (c := mc) hs hl hh
      cases a <;> exact h0
    have hst := run_storeCells (P := P) (e := e') (b := g) news cs.toArray o 0 w hg (by simp; omega) h1
    simp only [Nat.add_zero] at hst
    rw [foldl_set _ _ _ (by simp; omega)] at hst
    have hnew' : (cs.toArray.toList.take o ++ news ++ cs.toArray.toList.drop (o + news.length)) = new := by rw [hl]; exact hnew
    rw [hnew'] at hst
    refine ⟨.int .i64 (k : Int), _, _, ?_, hh.turnI hi _, h⟩
    have hk' : Nat.min m dl = k := hk.symm
    have e2 : (Builtin.copy_ #[t, ts] ty #[.slice (some ⟨g, o, none⟩) dl dc, .slice a m mc]).run P w = .ok (.int .i64 (k : Int)) (putBlk w g (.cells new.toArray e' (0, 0))) := by
      simp [Builtin.copy_, run_underlying (t := t) (d := .slice e), run_sizeOf (t := e) (z := z) (sz := sz) (bt := bt), Builtin.lenOf, hk', hfc, hst, goInt]
    simp [execOp, resolve, Go.invoke, Go.builtin, hkn.ev hx, hkn.ev hy, e2]
end
end Go.Sl
/- Integers of other kinds: sums, products, bits, shifts, remainders, conversions. -/
namespace Go.Sl
theorem wrap_u {k : IntKind} (hs : k.signed = false) {a : Int} (h0 : 0 ≤ a) (h1 : a < 2 ^ k.bits) : k.wrap a = a := by
  unfold IntKind.wrap
  simp only [hs, Bool.false_and, Bool.false_eq_true, if_false]
  exact Int.emod_eq_of_lt h0 h1
theorem wrap_u64 {a : Int} (h0 : 0 ≤ a) (h1 : a < 18446744073709551616) : IntKind.u64.wrap a = a := wrap_u rfl h0 (by simpa [IntKind.bits] using h1)
section
variable {F : Fence} {P : Program} {S : Nat → Prop} {w0 w : World} {n : Nat} {Q : Exit → Act → World → Prop} {ds : List Deferred} {σ : Env} {η : Heap} {ops : Array Oper} {rest : List Oper} {d : Nat} {ty : TypeId} {pos : String} {af : Array Edge}
theorem TL.addK (hF : Open F) {xt yt : TypeId} {x y : Operand} {k : IntKind} {a b r : Int} (hx : ev σ x = some (.int k a)) (hy : ev σ y = some (.int k b)) (hr : k.wrap (a + b) = r) (hn : Nat.blt d n = true)
    (h : TL F P S w0 n ops Q rest ds ((d, .int k r) :: σ) η) : TL F P S w0 n ops Q (⟨some d, .binOp .add xt x y yt, ty, pos, af, none⟩ :: rest) ds σ η := TL.bin hF hx hy (by simp [intOp, hr]) hn h
theorem TL.subK (hF : Open F) {xt yt : TypeId} {x y : Operand} {k : IntKind} {a b r : Int} (hx : ev σ x = some (.int k a)) (hy : ev σ y = some (.int k b)) (hr : k.wrap (a - b) = r) (hn : Nat.blt d n = true)
    (h : TL F P S w0 n ops Q rest ds ((d, .int k r) :: σ) η) : TL F P S w0 n ops Q (⟨some d, .binOp .sub xt x y yt, ty, pos, af, none⟩ :: rest) ds σ η := TL.bin hF hx hy (by simp [intOp, hr]) hn h
theorem TL.mulK (hF : Open F) {xt yt : TypeId} {x y : Operand} {k : IntKind} {a b r : Int} (hx : ev σ x = some (.int k a)) (hy : ev σ y = some (.int k b)) (hr : k.wrap (a * b) = r) (hn : Nat.blt d n = true)
    (h : TL F P S w0 n ops Q rest ds ((d, .int k r) :: σ) η) : TL F P S w0 n ops Q (⟨some d, .binOp .mul xt x y yt, ty, pos, af, none⟩ :: rest) ds σ η := TL.bin hF hx hy (by simp [intOp, hr]) hn h
theorem TL.convK (hF : Open F) {s t : TypeId} {d1 : TypeDesc} {k k' : IntKind} [Und P s d1] [Und P t (.int k)] {x : Operand} {a r : Int} (hx : ev σ x = some (.int k' a)) (hr : k.wrap a = r) (hn : Nat.blt d n = true)
    (h : TL F P S w0 n ops Q rest ds ((d, .int k r) :: σ) η) : TL F P S w0 n ops Q (⟨some d, .convert s t x, ty, pos, af, none⟩ :: rest) ds σ η :=
  TL.pure hF (by intro c; simp) hn (fun a w hk _ => by simp [execOp, hk.ev hx, convert, run_underlying (t := s) (d := d1), run_underlying (t := t) (d := .int k), Conv.intToInt, hr]) h
theorem and_toNat {b a m : Nat} (ha : a < 2 ^ b) (hm : m < 2 ^ b) : (BitVec.ofInt b (a : Int) &&& BitVec.ofInt b (m : Int)).toNat = a &&& m := by
  rw [BitVec.toNat_and, BitVec.ofInt_natCast, BitVec.ofInt_natCast, BitVec.toNat_ofNat, BitVec.toNat_ofNat, Nat.mod_eq_of_lt ha, Nat.mod_eq_of_lt hm]
theorem TL.andN (hF : Open F) {xt yt : TypeId} {x y : Operand} {k : IntKind} {a m : Nat} (hx : ev σ x = some (.int k (a : Int))) (hy : ev σ y = some (.int k (m : Int))) (hs : k.signed = false) (ha : a < 2 ^ k.bits) (hm : m < 2 ^ k.bits) (hn : Nat.blt d n = true)
    (h : TL F P S w0 n ops Q rest ds ((d, .int k ((a &&& m : Nat) : Int)) :: σ) η) : TL F P S w0 n ops Q (⟨some d, .binOp .and xt x y yt, ty, pos, af, none⟩ :: rest) ds σ η :=
  TL.pure hF (by intro c; simp) hn (fun b w hk _ => by
    have hle : a &&& m ≤ a := Nat.and_le_left
    have hw : k.wrap ((a &&& m : Nat) : Int) = ((a &&& m : Nat) : Int) := wrap_u hs (by omega) (by
      have : ((a &&& m : Nat) : Int) < ((2 ^ k.bits : Nat) : Int) := by omega
      simpa using this)
    have hb : (Op.intBits .and k (a : Int) (m : Int)).run P w = .ok (.int k ((a &&& m : Nat) : Int)) w := by
      unfold Op.intBits
      simp only [and_toNat ha hm, Sem.run_pure, hw]
    simp [execOp, hk.ev hx, hk.ev hy, eqGuard, binOp, hb]) h
theorem TL.shrN (hF : Open F) {xt yt : TypeId} {x y : Operand} {k yk : IntKind} {a s : Nat} (hx : ev σ x = some (.int k (a : Int))) (hy : ev σ y = some (.int yk (s : Int))) (hs : s ≤ k.bits) (hn : Nat.blt d n = true)
    (h : TL F P S w0 n ops Q rest ds ((d, .int k ((a / 2 ^ s : Nat) : Int)) :: σ) η) : TL F P S w0 n ops Q (⟨some d, .binOp .shr xt x y yt, ty, pos, af, none⟩ :: rest) ds σ η :=
  TL.pure hF (by intro c; simp) hn (fun b w hk _ => by
    have hb : (Op.shift .shr k (a : Int) yk (s : Int)).run P w = .ok (.int k ((a / 2 ^ s : Nat) : Int)) w := by
      unfold Op.shift
      rw [if_neg (by omega)]
      have e : min ((s : Int).toNat) k.bits = s := by rw [Int.toNat_natCast]; exact Nat.min_eq_left hs
      simp only [e, Sem.run_pure]
      rw [Int.fdiv_eq_ediv_of_nonneg _ (by exact_mod_cast Nat.zero_le (2 ^ s))]
      congr 2
    simp [execOp, hk.ev hx, hk.ev hy, eqGuard, binOp, hb]) h
theorem TL.remN (hF : Open F) {xt yt : TypeId} {x y : Operand} {k : IntKind} {a b : Nat} (hx : ev σ x = some (.int k (a : Int))) (hy : ev σ y = some (.int k (b : Int))) (hb : 0 < b) (hn : Nat.blt d n = true)
    (h : TL F P S w0 n ops Q rest ds ((d, .int k ((a % b : Nat) : Int)) :: σ) η) : TL F P S w0 n ops Q (⟨some d, .binOp .rem xt x y yt, ty, pos, af, none⟩ :: rest) ds σ η :=
  TL.pure hF (by intro c; simp) hn (fun c w hk _ => by
    have hb' : (Op.intDiv .rem k (a : Int) (b : Int)).run P w = .ok (.int k ((a % b : Nat) : Int)) w := by
      unfold Op.intDiv
      rw [if_neg (by omega)]
      simp only [Sem.run_pure]
      congr 2
    simp [execOp, hk.ev hx, hk.ev hy, eqGuard, binOp, hb']) h
end
end Go.Sl
/- Regions that draw their order, in which some operations write: pure ones are told once, heavy ones in each order that may come. -/
namespace Go.Sl

/-- What is known of the operations: place, value, kind (0: pure; 1: reads the heap; 2: carried out). -/
abbrev VL := List (Nat × Value × Nat)
def vget : VL → Nat → Option Value
  | [], _ => none
  | (i, v, _) :: r, j => bif Nat.beq i j then some v else vget r j
def execV (V : VL) : VL := V.map fun x => (x.1, x.2.1, bif Nat.beq x.2.2 1 then 2 else x.2.2)
theorem vget_cons (i : Nat) (v : Value) (k : Nat) (r : VL) (j : Nat) : vget ((i, v, k) :: r) j = if i = j then some v else vget r j := by
  simp only [vget]
  by_cases h : i = j
  · subst h; simp
  · have : Nat.beq i j = false := by
      cases hb : Nat.beq i j
      · rfl
      · exact absurd (Nat.eq_of_beq_eq_true hb) h
    simp [this, h]
theorem vget_exec : ∀ (V : VL) (j : Nat), vget (execV V) j = vget V j
  | [], _ => rfl
  | (i, v, k) :: r, j => by
    have := vget_exec r j
    show vget ((i, v, _) :: execV r) j = _
    rw [vget_cons, vget_cons, this]
theorem vget_mem : ∀ {V : VL} {j : Nat} {v : Value}, vget V j = some v → ∃ k, (j, v, k) ∈ V
  | (i, u, k) :: r, j, v, h => by
    rw [vget_cons] at h
    by_cases hij : i = j
    · rw [if_pos hij] at h; cases h; subst hij; exact ⟨k, List.mem_cons_self⟩
    · rw [if_neg hij] at h; obtain ⟨k', hk⟩ := vget_mem h; exact ⟨k', List.mem_cons_of_mem _ hk⟩
theorem mem_vget : ∀ {V : VL}, (V.map (·.1)).Nodup → ∀ {j : Nat} {v : Value} {k : Nat}, (j, v, k) ∈ V → vget V j = some v
  | (i, u, k0) :: r, hn, j, v, k, h => by
    simp only [List.map_cons, List.nodup_cons] at hn
    rw [vget_cons]
    rcases List.mem_cons.1 h with h | h
    · cases h; simp
    · have : i ≠ j := fun e => hn.1 (by rw [e]; exact List.mem_map.2 ⟨_, h, rfl⟩)
      rw [if_neg this]; exact mem_vget hn.2 h
def EnvOkV (l : List Oper) (σ : Env) (V : VL) (i : Nat) : List (Nat × Value × Option Nat) → Prop
  | [] => True
  | (t, v, some j) :: r => (waits l i j = true ∧ dstOf l j = some t ∧ vget V j = some v) ∧ EnvOkV l σ V i r
  | (t, v, none) :: r => (lk σ t = some v ∧ clean l i t = true) ∧ EnvOkV l σ V i r
theorem EnvOkV.ext {l : List Oper} {σ : Env} {V V' : VL} {i : Nat} (h : ∀ j v, vget V j = some v → vget V' j = some v) : ∀ {env : List (Nat × Value × Option Nat)}, EnvOkV l σ V i env → EnvOkV l σ V' i env
  | [], _ => trivial
  | (_t, u, some j) :: _r, he => ⟨⟨he.1.1, he.1.2.1, h j u he.1.2.2⟩, EnvOkV.ext h he.2⟩
  | (_t, _u, none) :: _r, he => ⟨he.1, EnvOkV.ext h he.2⟩
def complete (l : List Oper) (m : Nat) (V : VL) (hs : List Nat) : Bool := (List.range m).all fun i => (vget V i).isSome || hs.any (Nat.beq i) || (List.range l.length).any fun j => (vget V j).isNone && (waits l i j || waitsT l l.length i j)
def readersOk (l : List Oper) (V : VL) (h : Nat) : Bool := V.all fun x => !Nat.beq x.2.2 1 || (waits l h x.1 || waitsT l l.length h x.1)
def allEnvV (l : List Oper) (V : VL) (σ : Env) : Env := (V.filterMap fun x => (dstOf l x.1).map fun d => (d, x.2.1)) ++ σ
def dstsOk (l : List Oper) (m : Nat) : Bool := Nat.ble m l.length && distinct ((List.range m).map (dstOf l))

section
variable {F : Fence} {P : Program} {S : Nat → Prop} {w0 w : World} {n : Nat} {Q : Exit → Act → World → Prop} {l : List Oper} {ds : List Deferred} {σ : Env} {η : Heap}
structure InvD (S : Nat → Prop) (w0 : World) (n : Nat) (l : List Oper) (ds : List Deferred) (σ : Env) (V : VL) (η : Heap) (L : Array Bool) (a : Act) (w : World) : Prop where
  size : L.size = l.length
  dom : ∀ i, L[i]? = some true → (vget V i).isSome = true
  done : ∀ i v, (i, v, 2) ∈ V → L[i]? = some true
  down : ∀ k j, waits l k j = true → L[k]? = some true → L[j]? = some true
  tsize : a.tmps.size = n
  defers : a.defers = ds
  old : ∀ t v, lk σ t = some v → (∀ k, L[k]? = some true → dstOf l k ≠ some t) → a.tmps[t]? = some v
  new : ∀ i v d, L[i]? = some true → vget V i = some v → dstOf l i = some d → a.tmps[d]? = some v
  hp : Hp S w0 η w
def QSV (F : Fence) (P : Program) (S : Nat → Prop) (w0 : World) (n : Nat) (l : List Oper) (ds : List Deferred) (σ : Env) (V : VL) (η : Heap) (i : Nat) (v : Value) : Prop :=
  ∃ o d env, l[i]? = some o ∧ o.dst = some d ∧ EnvOkV l σ V i env ∧ ∀ ext : Env, TL F P S w0 n l.toArray (Fin S w0 n ds η ((d, v) :: (envs env ++ ext))) [o] ds (envs env ++ ext) η
theorem QSV.ext {V V' : VL} {i : Nat} {v : Value} (h : ∀ j v, vget V j = some v → vget V' j = some v) (hq : QSV F P S w0 n l ds σ V η i v) : QSV F P S w0 n l ds σ V' η i v := by
  obtain ⟨o, d, env, h1, h2, h3, h4⟩ := hq
  exact ⟨o, d, env, h1, h2, h3.ext h, h4⟩
def DH (F : Fence) (P : Program) (S : Nat → Prop) (w0 : World) (n : Nat) (l : List Oper) (ds : List Deferred) (σ : Env) (Q : Exit → Act → World → Prop) (m : Nat) (V : VL) (η : Heap) : Prop :=
  (V.map (·.1)).Nodup → (∀ i v, (i, v, 0) ∈ V → ∀ η', QSV F P S w0 n l ds σ V η' i v) → (∀ i v, (i, v, 1) ∈ V → QSV F P S w0 n l ds σ V η i v) → (∀ i v k, (i, v, k) ∈ V → i < m ∧ (k = 0 ∨ k = 1 ∨ k = 2)) →
    ∀ f L a w, L.toList.countP (· == false) = f → InvD S w0 n l ds σ V η L a w → wpAnyIn F 0 P .any l.toArray Q f L a w

variable {m : Nat} {V : VL}
theorem DH.quiet {k0 i : Nat} {v : Value} (hk0 : k0 = 0 ∨ k0 = 1) (him : Nat.blt i m = true) (hnew : vget V i = none) (hq0 : k0 = 0 → ∀ η', QSV F P S w0 n l ds σ V η' i v) (hq1 : k0 = 1 → QSV F P S w0 n l ds σ V η i v) (h : DH F P S w0 n l ds σ Q m ((i, v, k0) :: V) η) : DH F P S w0 n l ds σ Q m V η := by
  intro hn h0 h1 hk f L a w hc hi
  have hext : ∀ j u, vget V j = some u → vget ((i, v, k0) :: V) j = some u := by
    intro j u hj
    rw [vget_cons]
    by_cases e : i = j
    · subst e; rw [hnew] at hj; cases hj
    · rw [if_neg e]; exact hj
  have hni : i ∉ V.map (·.1) := by
    intro hm
    obtain ⟨⟨j, u, k⟩, hx, he⟩ := List.mem_map.1 hm
    simp only at he; subst he
    have := mem_vget hn hx
    rw [hnew] at this; cases this
  refine h (List.nodup_cons.2 ⟨hni, hn⟩) ?_ ?_ ?_ f L a w hc ⟨hi.size, ?_, ?_, hi.down, hi.tsize, hi.defers, hi.old, ?_, hi.hp⟩
  · intro j u hm η'
    rcases List.mem_cons.1 hm with e | hm
    · cases e; exact (hq0 rfl η').ext hext
    · exact (h0 j u hm η').ext hext
  · intro j u hm
    rcases List.mem_cons.1 hm with e | hm
    · cases e; exact (hq1 rfl).ext hext
    · exact (h1 j u hm).ext hext
  · intro j u k hm
    rcases List.mem_cons.1 hm with e | hm
    · cases e; exact ⟨Nat.le_of_ble_eq_true him, by rcases hk0 with h | h <;> simp [h]⟩
    · exact hk j u k hm
  · intro j hj
    have := hi.dom j hj
    cases hv : vget V j with
    | none => simp [hv] at this
    | some u => rw [hext j u hv]; rfl
  · intro j u hm
    rcases List.mem_cons.1 hm with e | hm
    · cases e; rcases hk0 with h | h <;> cases h
    · exact hi.done j u hm
  · intro j u d hj hv hd
    rw [vget_cons] at hv
    by_cases e : i = j
    · subst e
      have := hi.dom i hj
      rw [hnew] at this; simp at this
    · rw [if_neg e] at hv; exact hi.new j u d hj hv hd
/-- A pure operation. -/
theorem DH.pure {i : Nat} {v : Value} (env : List (Nat × Value × Option Nat)) {o : Oper} {d : Nat} (ho : l[i]? = some o) (hd : o.dst = some d) (him : Nat.blt i m = true) (hnew : vget V i = none) (he : EnvOkV l σ V i env)
    (hop : ∀ (η : Heap) (ext : Env), TL F P S w0 n l.toArray (Fin S w0 n ds η ((d, v) :: (envs env ++ ext))) [o] ds (envs env ++ ext) η) (h : DH F P S w0 n l ds σ Q m ((i, v, 0) :: V) η) : DH F P S w0 n l ds σ Q m V η :=
  DH.quiet (.inl rfl) him hnew (fun _ η' => ⟨o, d, env, ho, hd, he, hop η'⟩) (fun e => by cases e) h
/-- An operation that reads the heap. -/
theorem DH.read {i : Nat} {v : Value} (env : List (Nat × Value × Option Nat)) {o : Oper} {d : Nat} (ho : l[i]? = some o) (hd : o.dst = some d) (him : Nat.blt i m = true) (hnew : vget V i = none) (he : EnvOkV l σ V i env)
    (hop : ∀ ext : Env, TL F P S w0 n l.toArray (Fin S w0 n ds η ((d, v) :: (envs env ++ ext))) [o] ds (envs env ++ ext) η) (h : DH F P S w0 n l ds σ Q m ((i, v, 1) :: V) η) : DH F P S w0 n l ds σ Q m V η :=
  DH.quiet (.inr rfl) him hnew (fun e => by cases e) (fun _ => ⟨o, d, env, ho, hd, he, hop⟩) h

/-- What is asked behind a heavy operation. -/
def QB (F : Fence) (P : Program) (S : Nat → Prop) (w0 : World) (n : Nat) (l : List Oper) (ds : List Deferred) (σ : Env) (Q : Exit → Act → World → Prop) (m : Nat) (V : VL) (h d : Nat) (σ' : Env) : Exit → Act → World → Prop
  | .normal, a, w => ∃ v η', Kn n ds ((d, v) :: σ') a ∧ Hp S w0 η' w ∧ DH F P S w0 n l ds σ Q m ((h, v, 2) :: execV V) η'
  | e, a, w => Q e a w
theorem TL.finD {h d : Nat} {σ' : Env} {v : Value} {ops : Array Oper} (hd : DH F P S w0 n l ds σ Q m ((h, v, 2) :: execV V) η) : TL F P S w0 n ops (QB F P S w0 n l ds σ Q m V h d σ') [] ds ((d, v) :: σ') η := TL.nil fun _ _ hk hh => ⟨v, η, hk, hh, hd⟩
/-- A heavy operation that may come next. -/
def HB (F : Fence) (P : Program) (S : Nat → Prop) (w0 : World) (n : Nat) (l : List Oper) (ds : List Deferred) (σ : Env) (Q : Exit → Act → World → Prop) (m : Nat) (V : VL) (η : Heap) (h : Nat) : Prop :=
  ∃ o d env, l[h]? = some o ∧ o.dst = some d ∧ Nat.blt h m = true ∧ vget V h = none ∧ EnvOkV l σ V h env ∧ readersOk l V h = true ∧ ∀ ext : Env, TL F P S w0 n l.toArray (QB F P S w0 n l ds σ Q m V h d (envs env ++ ext)) [o] ds (envs env ++ ext) η

theorem InvD.env {L : Array Bool} {a : Act} (hi : InvD S w0 n l ds σ V η L a w) {i : Nat} (hL : L[i]? = some false) (hready : ∀ j, waits l i j = true → L[j]? = some true) :
    ∀ {env : List (Nat × Value × Option Nat)}, EnvOkV l σ V i env → ∀ t v, lk (envs env) t = some v → a.tmps[t]? = some v
  | [], _, t, v, h => by simp [envs, lk] at h
  | (s, u, some j) :: r, he, t, v, h => by
    simp only [envs] at h
    rw [lk_cons] at h
    by_cases hst : s = t
    · rw [if_pos hst] at h
      cases h; subst hst
      exact hi.new j u s (hready j he.1.1) he.1.2.2 he.1.2.1
    · rw [if_neg hst] at h
      exact InvD.env hi hL hready he.2 t v h
  | (s, u, none) :: r, he, t, v, h => by
    simp only [envs] at h
    rw [lk_cons] at h
    by_cases hst : s = t
    · rw [if_pos hst] at h
      cases h; subst hst
      refine hi.old s u he.1.1 fun k hk1 hk2 => ?_
      have hc := he.1.2
      simp only [clean, List.all_eq_true, List.mem_range, Bool.or_eq_true] at hc
      have hkl : k < l.length := by have := (Array.getElem?_eq_some_iff.1 hk1).1; rw [hi.size] at this; exact this
      rcases hc k hkl with (h1 | h1 | h1) | h1
      · rw [hk2] at h1; simp at h1
      · have := hi.down k i h1 hk1
        rw [hL] at this; cases this
      · have := waitsT_done hi.down _ k i (fun i' hi' => hi.down k i' hi' hk1) h1
        rw [hL] at this; cases this
      · have : k = i := Nat.eq_of_beq_eq_true h1
        subst this
        rw [hL] at hk1; cases hk1
    · rw [if_neg hst] at h
      exact InvD.env hi hL hready he.2 t v h

/-- One operation has been carried out. -/
theorem InvD.put {V' : VL} {η' : Heap} {L : Array Bool} {a a' : Act} {w' : World} (hi : InvD S w0 n l ds σ V η L a w) (hq : dstsOk l m = true) {i d : Nat} {v : Value} (him : i < m) (hL : L[i]? = some false) (hready : ∀ j, waits l i j = true → L[j]? = some true)
    (hV : ∀ j u, vget V j = some u → vget V' j = some u) (hV' : ∀ j u, j ≠ i → vget V' j = some u → vget V j = some u) (hvi : vget V' i = some v) (hdom : ∀ j, (vget V j).isSome = true → j < m) (hdi : dstOf l i = some d)
    (hdone : ∀ j u, (j, u, 2) ∈ V' → j = i ∨ L[j]? = some true)
    (hs : a'.tmps.size = n) (hds : a'.defers = ds) (hd : a'.tmps[d]? = some v) (ho : ∀ t u, t ≠ d → a.tmps[t]? = some u → a'.tmps[t]? = some u) (hh : Hp S w0 η' w') : InvD S w0 n l ds σ V' η' (L.setIfInBounds i true) a' w' := by
  have hil := (Array.getElem?_eq_some_iff.1 hL).1
  have hset : ∀ k, (L.setIfInBounds i true)[k]? = some true ↔ k = i ∨ L[k]? = some true := by
    intro k
    rw [Array.getElem?_setIfInBounds]
    by_cases e : i = k
    · subst e; simp [hil]
    · rw [if_neg e]
      constructor
      · exact .inr
      · rintro (h | h)
        · exact absurd h.symm e
        · exact h
  have hq' : quietOk l m = true := hq
  refine ⟨by simp [hi.size], ?_, ?_, ?_, hs, hds, ?_, ?_, hh⟩
  · intro k hk
    rcases (hset k).1 hk with e | hk
    · subst e; rw [hvi]; rfl
    · have := hi.dom k hk
      cases hv : vget V k with
      | none => simp [hv] at this
      | some u => rw [hV k u hv]; rfl
  · intro j u hj
    rcases hdone j u hj with e | h
    · exact (hset j).2 (.inl e)
    · exact (hset j).2 (.inr h)
  · intro k j hw hk
    rcases (hset k).1 hk with e | hk
    · subst e; exact (hset j).2 (.inr (hready j hw))
    · exact (hset j).2 (.inr (hi.down k j hw hk))
  · intro t u ht hno
    have hne : t ≠ d := fun e => hno i ((hset i).2 (.inl rfl)) (by rw [hdi, e])
    exact ho t u hne (hi.old t u ht fun k hk => hno k ((hset k).2 (.inr hk)))
  · intro j u d' hj hv hd'
    rcases (hset j).1 hj with e | hj2
    · subst e
      rw [hvi] at hv; cases hv
      rw [hdi] at hd'; cases hd'
      exact hd
    · have hji : j ≠ i := fun e => by subst e; rw [hL] at hj2; cases hj2
      refine ho d' u (fun e => ?_) (hi.new j u d' hj2 (hV' j u hji hv) hd')
      subst e
      exact hji (dst_ne hq' (hdom j (hi.dom j hj2)) him hd' hdi)

/-- An operation that is carried out from here. -/
theorem run_one {L : Array Bool} {a : Act} {i d : Nat} {o : Oper} {env : List (Nat × Value × Option Nat)} {QO : Env → Exit → Act → World → Prop} (hi : InvD S w0 n l ds σ V η L a w) (hL : L[i]? = some false) (hready : ∀ j, waits l i j = true → L[j]? = some true) (ho : l[i]? = some o) (henv : EnvOkV l σ V i env)
    (hop : ∀ ext : Env, TL F P S w0 n l.toArray (QO (envs env ++ ext)) [o] ds (envs env ++ ext) η) :
    wpOpIn F 0 P l.toArray (QO (envs env ++ fullEnv a)) i (fun a' w' => QO (envs env ++ fullEnv a) .normal a' w') a w ∧ (∀ v a', Kn n ds ((d, v) :: (envs env ++ fullEnv a)) a' → a'.tmps[d]? = some v ∧ ∀ t u, t ≠ d → a.tmps[t]? = some u → a'.tmps[t]? = some u) := by
  have hke : ∀ t v, lk (envs env) t = some v → a.tmps[t]? = some v := hi.env hL hready henv
  have hkn : Kn n ds (envs env ++ fullEnv a) a := ⟨hi.tsize, hi.defers, fun t v htv => by
    rcases lk_append htv with h5 | ⟨_, h5⟩
    · exact hke t v h5
    · exact lk_full a t v h5⟩
  have h6 := hop (fullEnv a) a w hkn hi.hp
  rw [wpListIn_one (i := i) (by simp [ho])] at h6
  refine ⟨wpOpIn_mono (fun a' w' hx => hx) h6, fun v a' hk' => ⟨hk'.slot d _ (by rw [lk_cons, if_pos rfl]), fun t u hne htu => ?_⟩⟩
  refine hk'.slot t u ?_
  rw [lk_cons, if_neg (Ne.symm hne)]
  have hfull : lk (fullEnv a) t = some u := by
    have := lk_full' a.tmps.toList 0 t u (by simpa using htu)
    simpa [fullEnv] using this
  have happ : ∀ (e1 : Env), (∀ v, lk e1 t = some v → v = u) → lk (e1 ++ fullEnv a) t = some u := by
    intro e1
    induction e1 with
    | nil => intro _; exact hfull
    | cons p r ihr =>
      obtain ⟨s, v⟩ := p
      intro hv
      rw [List.cons_append, lk_cons]
      by_cases hst : s = t
      · rw [if_pos hst, hv v (by rw [lk_cons, if_pos hst])]
      · rw [if_neg hst]; exact ihr fun v' hv' => hv v' (by rw [lk_cons, if_neg hst]; exact hv')
  exact happ _ fun v hv => by
    have := hke t v hv
    rw [htu] at this; cases this; rfl

/-- A node: the heavy operations that may come next; at a leaf the tail. -/
theorem DH.node (hs : List Nat) (hd : dagOk l = true) (ht : tailOk l m = true) (hq : dstsOk l m = true) (hcomp : complete l m V hs = true) (hbr : ∀ h ∈ hs, HB F P S w0 n l ds σ Q m V η h)
    (hleaf : (∀ i, i < m → (vget V i).isSome = true) → TL F P S w0 n l.toArray Q (l.drop m) ds (allEnvV l V σ) η) : DH F P S w0 n l ds σ Q m V η := by
  intro hn h0 h1 hk
  have hml : m ≤ l.length := by
    simp only [dstsOk, Bool.and_eq_true] at hq
    exact Nat.le_of_ble_eq_true hq.1
  have hdom : ∀ j, (vget V j).isSome = true → j < m := by
    intro j hj
    cases hv : vget V j with
    | none => simp [hv] at hj
    | some u => obtain ⟨k, hm⟩ := vget_mem hv; exact (hk j u k hm).1
  have last : ∀ (f : Nat) (L : Array Bool) (a : Act) (w : World), L.toList.countP (· == false) = f → InvD S w0 n l ds σ V η L a w → (∀ k, k < m → L[k]? = some true) → wpAnyIn F 0 P .any l.toArray Q f L a w := by
    intro f L a w hc hi hall
    have hsz := hi.size
    have hLq : ∀ k, L[k]? = some true → k < m := fun k hk' => hdom k (hi.dom k hk')
    have hL : ∀ j, j < l.length → L[j]? = some (decide (j < m)) := fun j hj => by
      by_cases h1 : j < m
      · rw [hall j h1]; simp [h1]
      · have hj' : j < L.size := by omega
        have : L[j]? ≠ some true := fun e => h1 (hLq j e)
        simp only [hj', Array.getElem?_eq_getElem] at this ⊢
        cases h4 : L[j] with
        | true => rw [h4] at this; exact absurd rfl this
        | false => simp [h1]
    have hLeq : L.toList = List.replicate m true ++ List.replicate (l.length - m) false := by
      apply List.ext_getElem?
      intro j
      rw [Array.getElem?_toList]
      by_cases hj : j < l.length
      · rw [hL j hj]
        by_cases h1 : j < m
        · rw [List.getElem?_append_left (by simpa using h1)]; simp [h1]
        · rw [List.getElem?_append_right (by simpa using h1)]
          rw [List.getElem?_replicate, List.length_replicate, if_pos (by omega)]
          simp [h1]
      · rw [Array.getElem?_eq_none (by omega), List.getElem?_eq_none (by simp; omega)]
    have hf : m + f = l.length := by
      rw [hLeq] at hc
      simp [List.countP_append, List.countP_replicate] at hc
      omega
    refine any_tail hd ht f m L a w hf (Nat.le_refl _) hsz hL (hleaf (fun i him => hi.dom i (hall i him)) a w ⟨hi.tsize, hi.defers, fun t v htv => ?_⟩ hi.hp)
    have hmem : ∀ t v, (t, v) ∈ (V.filterMap fun x => (dstOf l x.1).map fun d => (d, x.2.1)) → ∃ i, vget V i = some v ∧ dstOf l i = some t := by
      intro t v h
      obtain ⟨⟨i, u, k⟩, h1, h2⟩ := List.mem_filterMap.1 h
      simp only [Option.map_eq_some_iff, Prod.mk.injEq] at h2
      obtain ⟨d, hd, rfl, rfl⟩ := h2
      exact ⟨i, mem_vget hn h1, hd⟩
    rcases lk_append htv with h5 | ⟨h5, h6⟩
    · obtain ⟨i, h3, h4⟩ := hmem t v (lk_mem h5)
      exact hi.new i v t (hall i (hdom i (by rw [h3]; rfl))) h3 h4
    · refine hi.old t v h6 fun k hk1 hk2 => ?_
      have hkv := hi.dom k hk1
      cases hv : vget V k with
      | none => simp [hv] at hkv
      | some u =>
        obtain ⟨kk, hm⟩ := vget_mem hv
        refine lk_none h5 u (List.mem_filterMap.2 ⟨(k, u, kk), hm, by simp [hk2]⟩)
  intro f
  induction f with
  | zero =>
    intro L a w hc hi
    refine last 0 L a w hc hi (fun j hj => ?_)
    have hsz := hi.size
    have hj' : j < L.size := by omega
    rw [List.countP_eq_zero] at hc
    have := hc L[j] (by simp)
    simp at this
    simp [hj', this]
  | succ f ih =>
    intro L a w hc hi
    have hsz := hi.size
    by_cases hall : ∀ k, k < m → L[k]? = some true
    · exact last (f + 1) L a w hc hi hall
    · simp only [Classical.not_forall] at hall
      obtain ⟨j, hj, hjn⟩ := hall
      have hjL : L[j]? = some false := by
        have hj' : j < L.size := by omega
        simp only [hj', Array.getElem?_eq_getElem] at hjn ⊢
        cases h4 : L[j] with
        | true => rw [h4] at hjn; exact absurd rfl hjn
        | false => rfl
      refine ⟨fun he => by
        obtain ⟨i, hi'⟩ := ready_ex hd hsz j hjL
        rw [he] at hi'; simp at hi', fun i hir => ?_⟩
      obtain ⟨hLi, hready⟩ := mem_ready hsz hir
      have hilt := (Array.getElem?_eq_some_iff.1 hLi).1
      have him : i < m := by
        rcases Nat.lt_or_ge i m with h3 | h3
        · exact h3
        · have : L[j]? = some true := by
            simp only [tailOk, List.all_eq_true, List.mem_range, Bool.or_eq_true] at ht
            rcases ht i (by omega) with h4 | h4
            · have : i < m := Nat.le_of_ble_eq_true h4
              omega
            · rcases h4 j (by omega) with h5 | h5
              · exact hready j h5
              · exact waitsT_done hi.down _ i j hready h5
          rw [hjL] at this; cases this
      have hcnt : (L.setIfInBounds i true).toList.countP (· == false) = f := by
        rw [Array.toList_setIfInBounds, List.countP_set (by simpa using hilt)]
        have h7 : L.toList[i]'(by simpa using hilt) = false := by
          have := (Array.getElem?_eq_some_iff.1 hLi).2
          simpa using this
        rw [h7, hc]; simp
      simp only [complete, List.all_eq_true, List.mem_range, Bool.or_eq_true] at hcomp
      rcases hcomp i him with (hv | hv) | hv
      · -- a quiet one
        cases hvi : vget V i with
        | none => simp [hvi] at hv
        | some v =>
          obtain ⟨k, hmem⟩ := vget_mem hvi
          have hqs : QSV F P S w0 n l ds σ V η i v := by
            rcases (hk i v k hmem).2 with e | e | e
            · subst e; exact h0 i v hmem η
            · subst e; exact h1 i v hmem
            · subst e; have := hi.done i v hmem; rw [hLi] at this; cases this
          obtain ⟨o, d, env, ho, hod, henv, hop⟩ := hqs
          have hdi : dstOf l i = some d := by simp [dstOf, ho, hod]
          obtain ⟨hrun, hfr⟩ := run_one (d := d) (QO := fun σ' => Fin S w0 n ds η ((d, v) :: σ')) hi hLi hready ho henv hop
          refine wpOpIn_monoQ (fun a' w' hx => ?_) (fun e a' w' hne hx => by cases e <;> first | exact absurd rfl hne | exact hx.elim) hrun
          obtain ⟨hk', hh'⟩ := (show Kn n ds ((d, v) :: (envs env ++ fullEnv a)) a' ∧ Hp S w0 η w' from hx)
          exact ih _ a' w' hcnt (hi.put hq him hLi hready (fun _ _ h => h) (fun _ _ _ h => h) hvi hdom hdi (fun j u hm => .inr (hi.done j u hm)) hk'.size hk'.defers (hfr v a' hk').1 (hfr v a' hk').2 hh')
      · -- a heavy one
        have hih : i ∈ hs := by
          obtain ⟨x, hx, he⟩ := List.any_eq_true.1 hv
          have : i = x := Nat.eq_of_beq_eq_true he
          rw [this]; exact hx
        obtain ⟨o, d, env, ho, hod, _, hnew, henv, hrd, hop⟩ := hbr i hih
        have hdi : dstOf l i = some d := by simp [dstOf, ho, hod]
        obtain ⟨hrun, hfr⟩ := run_one (d := d) (QO := fun σ' => QB F P S w0 n l ds σ Q m V i d σ') hi hLi hready ho henv hop
        refine wpOpIn_monoQ (fun a' w' hx => ?_) (fun e a' w' hne hx => by cases e <;> first | exact absurd rfl hne | exact hx) hrun
        obtain ⟨v, η', hk', hh', hdh⟩ := (show ∃ v η', Kn n ds ((d, v) :: (envs env ++ fullEnv a)) a' ∧ Hp S w0 η' w' ∧ DH F P S w0 n l ds σ Q m ((i, v, 2) :: execV V) η' from hx)
        have hext : ∀ j u, vget V j = some u → vget ((i, v, 2) :: execV V) j = some u := by
          intro j u hj
          rw [vget_cons, vget_exec]
          by_cases e : i = j
          · subst e; rw [hnew] at hj; cases hj
          · rw [if_neg e]; exact hj
        have hex : ∀ j u k, (j, u, k) ∈ execV V → ∃ k0, (j, u, k0) ∈ V ∧ ((k0 = 1 ∧ k = 2) ∨ (k0 ≠ 1 ∧ k = k0)) := by
          intro j u k hm
          obtain ⟨⟨j0, u0, k0⟩, hx0, he⟩ := List.mem_map.1 hm
          simp only [Prod.mk.injEq] at he
          obtain ⟨rfl, rfl, hke⟩ := he
          refine ⟨k0, hx0, ?_⟩
          by_cases e : k0 = 1
          · subst e; left; exact ⟨rfl, hke.symm⟩
          · right
            have : Nat.beq k0 1 = false := by
              cases hb : Nat.beq k0 1
              · rfl
              · exact absurd (Nat.eq_of_beq_eq_true hb) e
            rw [this] at hke; exact ⟨e, hke.symm⟩
        have hmapf : (execV V).map (·.1) = V.map (·.1) := by simp [execV, Function.comp_def]
        refine hdh ?_ ?_ ?_ ?_ f _ a' w' hcnt (hi.put hq him hLi hready hext ?_ (by rw [vget_cons, if_pos rfl]) hdom hdi ?_ hk'.size hk'.defers (hfr v a' hk').1 (hfr v a' hk').2 hh')
        · rw [List.map_cons, hmapf]
          refine List.nodup_cons.2 ⟨fun hm => ?_, hn⟩
          obtain ⟨⟨j0, u0, k0⟩, hx0, he⟩ := List.mem_map.1 hm
          simp only at he; subst he
          have := mem_vget hn hx0
          rw [hnew] at this; cases this
        · intro j u hm η2
          rcases List.mem_cons.1 hm with e | hm
          · cases e
          · obtain ⟨k0, hx0, h2 | h2⟩ := hex j u 0 hm
            · exact absurd h2.2 (by decide)
            · rw [← h2.2] at hx0; exact (h0 j u hx0 η2).ext hext
        · intro j u hm
          rcases List.mem_cons.1 hm with e | hm
          · cases e
          · obtain ⟨k0, hx0, h2 | h2⟩ := hex j u 1 hm
            · exact absurd h2.2 (by decide)
            · exact absurd h2.2.symm h2.1
        · intro j u k hm
          rcases List.mem_cons.1 hm with e | hm
          · cases e; exact ⟨him, .inr (.inr rfl)⟩
          · obtain ⟨k0, hx0, h2 | h2⟩ := hex j u k hm
            · exact ⟨(hk j u k0 hx0).1, .inr (.inr h2.2)⟩
            · rw [h2.2]; exact hk j u k0 hx0
        · intro j u hji hv2
          rw [vget_cons, if_neg (fun e => hji e.symm), vget_exec] at hv2; exact hv2
        · intro j u hm
          rcases List.mem_cons.1 hm with e | hm
          · cases e; exact .inl rfl
          · obtain ⟨k0, hx0, h2 | h2⟩ := hex j u 2 hm
            · right
              simp only [readersOk, List.all_eq_true] at hrd
              have h3 := hrd (j, u, k0) hx0
              simp only [h2.1, Bool.or_eq_true, Bool.not_eq_true'] at h3
              rcases h3 with h3 | h3 | h3
              · simp at h3
              · exact hready j h3
              · exact waitsT_done hi.down _ i j hready h3
            · right; rw [← h2.2] at hx0; exact hi.done j u hx0
      · -- it waits for what is not known
        exfalso
        simp only [List.any_eq_true, List.mem_range, Bool.and_eq_true, Bool.or_eq_true] at hv
        obtain ⟨j2, hj2, hnone, hw⟩ := hv
        have hLj : L[j2]? = some true := by
          rcases hw with h5 | h5
          · exact hready j2 h5
          · exact waitsT_done hi.down _ i j2 hready h5
        have := hi.dom j2 hLj
        cases hvv : vget V j2 with
        | none => simp [hvv] at this
        | some u => simp [hvv] at hnone
theorem DH.done (pre : Env) (tl : List Oper) (hd : dagOk l = true) (ht : tailOk l m = true) (hq : dstsOk l m = true) (hcomp : complete l m V [] = true) (hp : allEnvV l V σ = pre ++ σ) (hl : l.drop m = tl)
    (h : TL F P S w0 n l.toArray Q tl ds (pre ++ σ) η) : DH F P S w0 n l ds σ Q m V η := DH.node [] hd ht hq hcomp (by simp) (fun _ => by rw [hp, hl]; exact h)
theorem not_all {h : Nat} (hm : Nat.blt h m = true) (hv : vget V h = none) {X : Prop} (ha : ∀ i, i < m → (vget V i).isSome = true) : X := by
  have := ha h (Nat.le_of_ble_eq_true hm)
  rw [hv] at this; simp at this
/-- One heavy operation may come next. -/
theorem DH.heavy (h : Nat) (env : List (Nat × Value × Option Nat)) {o : Oper} {d : Nat} (hd : dagOk l = true) (ht : tailOk l m = true) (hq : dstsOk l m = true) (hcomp : complete l m V [h] = true) (ho : l[h]? = some o) (hod : o.dst = some d) (him : Nat.blt h m = true) (hnew : vget V h = none) (he : EnvOkV l σ V h env) (hrd : readersOk l V h = true)
    (hop : ∀ ext : Env, TL F P S w0 n l.toArray (QB F P S w0 n l ds σ Q m V h d (envs env ++ ext)) [o] ds (envs env ++ ext) η) : DH F P S w0 n l ds σ Q m V η :=
  DH.node [h] hd ht hq hcomp (fun h' hh => by
    have : h' = h := by simpa using hh
    subst this; exact ⟨o, d, env, ho, hod, him, hnew, he, hrd, hop⟩) (fun ha => not_all him hnew ha)
/-- Two heavy operations may come next. -/
theorem DH.heavy2 {h1 h2 : Nat} (hd : dagOk l = true) (ht : tailOk l m = true) (hq : dstsOk l m = true) (hcomp : complete l m V [h1, h2] = true) (b1 : HB F P S w0 n l ds σ Q m V η h1) (b2 : HB F P S w0 n l ds σ Q m V η h2) : DH F P S w0 n l ds σ Q m V η :=
  DH.node [h1, h2] hd ht hq hcomp (fun h' hh => by
    rcases List.mem_cons.1 hh with e | hh
    · subst e; exact b1
    · have : h' = h2 := by simpa using hh
      subst this; exact b2) (fun ha => by obtain ⟨_, _, _, _, _, him, hnew, _⟩ := b1; exact not_all him hnew ha)
theorem T.drawH (m : Nat) {id : Nat} (hm : P.follows .mixedOrders = true) (h : DH F P S w0 n l ds σ Q m [] η) : T F P S w0 n Q (.region id l.toArray true) ds σ η := fun a w hk hh => by
  refine wpIn_region_any hm ?_
  refine h (by simp) (by simp) (by simp) (by simp) _ _ a _ ?_ ?_
  · simp [List.countP_replicate]
  exact ⟨by simp, fun k hk => by simp [Array.getElem?_replicate] at hk, by simp, fun k j _ hk => by simp [Array.getElem?_replicate] at hk, hk.size, hk.defers, fun t v h1 _ => hk.slot t v h1, fun i v d hi => by simp [Array.getElem?_replicate] at hi, hh.drew _⟩
end
end Go.Sl
/- Owned slices that begin behind the start of their block. -/
namespace Go.Sl
/-- An owned slice, from some place of its block on. -/
def OSx (e : TypeId) (sz : Nat) (v : Value) (n : Nat) (xs : List Value) (seg : Seg) : Prop :=
  xs.length = n * sz ∧ ((v = .slice none 0 0 ∧ n = 0 ∧ seg = []) ∨
    ∃ g o cap cur, v = .slice (some ⟨g, o, none⟩) n cap ∧ seg = [(g, .cells cur e (0, 0))] ∧ n ≤ cap ∧ o + cap * sz ≤ cur.size ∧ (cur.toList.drop o).take (n * sz) = xs)
section
variable {P : Program} {S : Nat → Prop} {w0 w : World} {η : Heap}
theorem OSl.x {e : TypeId} {sz n : Nat} {v : Value} {xs : List Value} {seg : Seg} (h : OSl e sz v n xs seg) : OSx e sz v n xs seg := by
  refine ⟨h.1, ?_⟩
  rcases h.2 with h2 | ⟨g, cap, cur, hv, hs, hnc, hcs, ht⟩
  · exact .inl h2
  · exact .inr ⟨g, 0, cap, cur, hv, hs, hnc, by omega, by rw [List.drop_zero]; exact ht⟩
theorem OSx.nil (e : TypeId) (sz : Nat) : OSx e sz (.slice none 0 0) 0 [] [] := ⟨by simp, .inl ⟨rfl, rfl, rfl⟩⟩
theorem OSx.form {e : TypeId} {sz n : Nat} {v : Value} {xs : List Value} {seg : Seg} (h : OSx e sz v n xs seg) : ∃ a cap, v = .slice a n cap := by
  rcases h.2 with ⟨rfl, rfl, _⟩ | ⟨g, o, cap, cur, rfl, _⟩ <;> exact ⟨_, _, rfl⟩
theorem OSx.row {e : TypeId} {sz n : Nat} {a : Option Addr} {l cap : Nat} {xs : List Value} {seg : Seg} (h : OSx e sz (.slice a l cap) n xs seg) (hs : seg ∈ η) : Row S w0 η a xs := by
  rcases h.2 with ⟨hv, hn, _⟩ | ⟨g, o, cap', cur, hv, hsg, hnc, hcs, ht⟩
  · have hx : xs = [] := List.eq_nil_of_length_eq_zero (by have := h.1; rw [hn] at this; simpa using this)
    subst hx
    exact ⟨fun hl => by simp at hl, fun i v hi => by simp at hi⟩
  · simp only [Value.slice.injEq] at hv
    obtain ⟨rfl, _, _⟩ := hv
    refine ⟨fun _ => ⟨_, rfl, rfl⟩, fun i v hi => ?_⟩
    refine .own seg hs cur e (0, 0) (by rw [hsg]; simp [sAt]) ?_ rfl
    rw [← ht, List.getElem?_take] at hi
    split at hi
    · rw [List.getElem?_drop] at hi; simpa [sAt] using hi
    · cases hi
theorem OSx.cut {e : TypeId} {sz n k : Nat} {a : Option Addr} {cap : Nat} {xs : List Value} {seg : Seg} (h : OSx e sz (.slice a n cap) n xs seg) (hk : k ≤ n) : OSx e sz (.slice (if cap = k then a else a.map (·.add (k * sz))) (n - k) (cap - k)) (n - k) (xs.drop (k * sz)) seg := by
  have hlen : (xs.drop (k * sz)).length = (n - k) * sz := by rw [List.length_drop, h.1, Nat.sub_mul]
  refine ⟨hlen, ?_⟩
  rcases h.2 with ⟨hv, hn, hs⟩ | ⟨g, o, cap', cur, hv, hsg, hnc, hcs, ht⟩
  · simp only [Value.slice.injEq] at hv
    obtain ⟨rfl, _, rfl⟩ := hv
    subst hn
    have : k = 0 := by omega
    subst this
    exact .inl ⟨by simp, rfl, hs⟩
  · simp only [Value.slice.injEq] at hv
    obtain ⟨rfl, _, rfl⟩ := hv
    right
    by_cases hck : cap = k
    · refine ⟨g, o, 0, cur, by rw [if_pos hck, hck]; simp, hsg, by omega, by omega, ?_⟩
      have : n - k = 0 := by omega
      have hl2 : xs.length ≤ k * sz := by rw [h.1]; exact Nat.mul_le_mul_right _ (by omega)
      rw [this, List.drop_of_length_le hl2]; simp
    · have hadd : (⟨g, o, none⟩ : Addr).add (k * sz) = ⟨g, o + k * sz, none⟩ := by
        unfold Addr.add; split
        · rename_i h0; simp
        · rfl
      have hmul : cap * sz = k * sz + (cap - k) * sz := by rw [← Nat.add_mul]; congr 1; omega
      refine ⟨g, o + k * sz, cap - k, cur, by rw [if_neg hck]; simp [hadd], hsg, by omega, by omega, ?_⟩
      rw [← ht, ← List.drop_drop, List.drop_take, ← Nat.sub_mul]
theorem run_appendX {t ty e : TypeId} [Und P t (.slice e)] {z : Value} {sz bt : Nat} [Inf P e z sz bt] (hz : z.cells.size = sz) {i n m : Nat} {v x : Value} {xs news : List Value} {seg : Seg} (hh : Hp S w0 η w) (hi : η[i]? = some seg)
    (ho : OSx e sz v n xs seg) (hs : Src S w0 η x m news) (hl : news.length = m * sz) (h1 : ∀ u ∈ news, u.oneCell' = true) (hb : (n + m) * bt ≤ 140737488355328) (hsm : n + m ≤ 4611686018427387904) :
    ∃ v' w' seg', (Builtin.append_ #[t, t] ty #[v, x]).run P w = .ok v' w' ∧ Hp S w0 (η.set i seg') w' ∧ OSx e sz v' (n + m) (xs ++ news) seg' := by
  obtain ⟨a, c, rfl, hr⟩ := hs
  have hfc := run_firstCells (P := P) (c := c) hr hl hh
  have hlen : (xs ++ news).length = (n + m) * sz := by rw [List.length_append, ho.1, hl, Nat.add_mul]
  obtain ⟨inf, hinf, hiz, hisz, hibt⟩ := run_typeInfo (P := P) (t := e) (z := z) (sz := sz) (bt := bt)
  have grow : ∀ (base : Option Addr) (cap : Nat), v = .slice base n cap → cap < n + m → (Builtin.firstCells sz n v).run P w.drew = .ok xs.toArray w.drew →
      ∃ v' w' seg', (Builtin.append_ #[t, t] ty #[v, .slice a m c]).run P w = .ok v' w' ∧ Hp S w0 (η.set i seg') w' ∧ OSx e sz v' (n + m) (xs ++ news) seg' := by
    intro base cap hv hlt hold
    subst hv
    have hfc' : (Builtin.firstCells sz m (.slice a m c)).run P w.drew = .ok news.toArray w.drew := run_firstCells (P := P) (c := c) hr hl (hh.drew (w.drawn + 1))
    have hg := growslice_fits (old := cap) (bytes := bt) hlt hb
    have hq : (Question.appendCap (n + m) cap e).forced = false := rfl
    have hcut : ∃ k, (Question.appendCap (n + m) cap e).cut (w.tape w.drawn (.appendCap (n + m) cap e)) = n + m + k := ⟨_, rfl⟩
    obtain ⟨k, hk⟩ := hcut
    refine ⟨.slice (some ⟨w.heap.size, 0, none⟩) (n + m) (n + m + k), w.drew.alloc (.cells (xs.toArray ++ news.toArray ++ Builtin.zeroCells z.cells k) e (0, 0)), [(w.heap.size, .cells (xs.toArray ++ news.toArray ++ Builtin.zeroCells z.cells k) e (0, 0))], ?_, (hh.drew (w.drawn + 1)).freshI hi _, hlen, .inr ⟨_, 0, _, _, rfl, rfl, by omega, ?_, ?_⟩⟩
    · have h3 : ¬ (n + m ≤ cap) := by omega
      simp only [Builtin.append_]
      simp [run_underlying (t := t) (d := .slice e), run_sizeOf (t := e) (z := z) (sz := sz) (bt := bt), Builtin.lenOf, h3, hinf, hibt, hq, hk, hold, hfc', run_zeroValue (t := e) (z := z) (sz := sz) (bt := bt), newRow]
      rw [if_neg (by omega), if_neg (by omega)]
      simp
      congr 2
      rw [← Array.append_assoc]
      simp
    · exact Nat.le_of_eq (by simp [Builtin.zeroCells, ho.1, hl, hz, Nat.add_mul])
    · rw [List.drop_zero]
      simp only [Array.toList_append, List.append_assoc]
      rw [← List.append_assoc, ← hlen]
      exact List.take_left
  rcases ho.2 with ⟨rfl, rfl, rfl⟩ | ⟨g, o, cap, cur, rfl, rfl, hnc, hcs, htk⟩
  · have hx : xs = [] := List.eq_nil_of_length_eq_zero (by simpa using ho.1)
    subst hx
    by_cases hm : m = 0
    · subst hm
      have hn : news = [] := List.eq_nil_of_length_eq_zero (by simpa using hl)
      subst hn
      refine ⟨.slice none 0 0, w, [], ?_, ?_, OSx.nil e sz⟩
      · simp [Builtin.append_, run_underlying (t := t) (d := .slice e), run_sizeOf (t := e) (z := z) (sz := sz) (bt := bt), Builtin.lenOf, hfc]
      · obtain ⟨pre, post, he, hse⟩ := flatten_set_sub (s' := ([] : Seg)) hi
        rw [hse, ← he]; exact hh
    · exact grow none 0 rfl (by omega) (by simp [Builtin.firstCells])
  · by_cases hroom : n + m ≤ cap
    · have hg := (hh.own (g, .cells cur e (0, 0)) (List.mem_flatten.2 ⟨_, List.mem_of_getElem? hi, by simp⟩)).1
      have hmul : (n + m) * sz ≤ cap * sz := Nat.mul_le_mul_right _ hroom
      have hfit : o + n * sz + news.length ≤ cur.size := by rw [hl]; rw [Nat.add_mul] at hmul; omega
      refine ⟨_, _, [(g, .cells ((cur.toList.take (o + n * sz) ++ news ++ cur.toList.drop (o + n * sz + news.length)).toArray) e (0, 0))], ?_, hh.turnI hi _, hlen, .inr ⟨g, o, cap, _, rfl, rfl, hroom, ?_, ?_⟩⟩
      · have hadd : (⟨g, o, none⟩ : Addr).add (n * sz) = ⟨g, o + n * sz, none⟩ := by
          unfold Addr.add; split
          · rename_i h0; simp
          · rfl
        have hst := run_storeCells (P := P) (e := e) (b := g) news cur (o + n * sz) 0 w hg (by simpa using hfit) h1
        simp only [Nat.add_zero] at hst
        rw [foldl_set _ _ _ hfit] at hst
        simp [Builtin.append_, run_underlying (t := t) (d := .slice e), run_sizeOf (t := e) (z := z) (sz := sz) (bt := bt), Builtin.lenOf, hroom, hfc, hadd, hst]
      · simp only [List.size_toArray, List.length_append, List.length_take, List.length_drop, Array.length_toList]
        omega
      · have hol : o ≤ (cur.toList.take (o + n * sz)).length := by simp; omega
        have e1 : (cur.toList.take (o + n * sz)).drop o = xs := by
          rw [← htk, List.drop_take]; congr 1; omega
        show ((cur.toList.take (o + n * sz) ++ news ++ cur.toList.drop (o + n * sz + news.length)).drop o).take ((n + m) * sz) = xs ++ news
        rw [List.append_assoc, List.drop_append_of_le_length hol, e1, ← List.append_assoc, ← hlen]
        exact List.take_left
    · refine grow (some ⟨g, o, none⟩) cap rfl (by omega) ?_
      have hrow : Row S w0 η (some ⟨g, o, none⟩) xs := ho.row (List.mem_of_getElem? hi)
      exact run_firstCells hrow ho.1 (hh.drew _)

end
section
variable {F : Fence} {P : Program} {S : Nat → Prop} {w0 : World} {n : Nat} {Q : Exit → Act → World → Prop} {ds : List Deferred} {σ : Env} {η : Heap} {ops : Array Oper} {rest : List Oper} {d : Nat} {ty : TypeId} {pos : String} {af : Array Edge}
/-- append, of such a slice that is owned at place i. -/
theorem TL.appendX (hF : Open F) (i : Nat) {t e : TypeId} [Und P t (.slice e)] {z : Value} {sz bt : Nat} [Inf P e z sz bt] {x y : Operand} {k m : Nat} {v u : Value} {xs news : List Value} {seg : Seg} (hx : ev σ x = some v) (hy : ev σ y = some u)
    (hi : η[i]? = some seg) (ho : OSx e sz v k xs seg) (hs : Src S w0 η u m news) (hz : z.cells.size = sz) (hl : news.length = m * sz) (h1 : ∀ u ∈ news, u.oneCell' = true) (hb : (k + m) * bt ≤ 140737488355328) (hsm : k + m ≤ 4611686018427387904) (hn : Nat.blt d n = true)
    (h : ∀ a cap seg', OSx e sz (.slice a (k + m) cap) (k + m) (xs ++ news) seg' → TL F P S w0 n ops Q rest ds ((d, .slice a (k + m) cap) :: σ) (η.set i seg')) :
    TL F P S w0 n ops Q (⟨some d, .call ⟨.builtin .append, #[x, y], #[t, t]⟩, ty, pos, af, none⟩ :: rest) ds σ η :=
  TL.val hF (by intro c; simp) hn fun a w hk hh => by
    obtain ⟨v', w', seg', hr, hh', ho'⟩ := run_appendX (P := P) (t := t) (ty := ty) (e := e) (z := z) (sz := sz) (bt := bt) hz hh hi ho hs hl h1 hb hsm
    obtain ⟨a', cap, rfl⟩ := ho'.form
    exact ⟨_, w', _, by simp [execOp, resolve, Go.invoke, Go.builtin, hk.ev hx, hk.ev hy, hr], hh', h _ _ _ ho'⟩
end
end Go.Sl
/- Blocks that are from now on only read; what arguments hold; the frame of a law. -/
namespace Go.Sl
section
variable {F : Fence} {P : Program} {S : Nat → Prop} {w0 w : World} {n : Nat} {Q : Exit → Act → World → Prop} {ds : List Deferred} {σ : Env} {η : Heap} {ops : Array Oper}
/-- From one view of memory to the next one, in which some owned blocks are only read. -/
structure Frz (S S' : Nat → Prop) (w0 w1 : World) (ηr : Heap) : Prop where
  back : ∀ η' w', Hp S' w1 η' w' → Hp S w0 (ηr ++ η') w'
  get : ∀ a v, At S w0 ηr a v → At S' w1 [] a v

theorem frz_mk {ηr : Heap} (hh : Hp S w0 (ηr ++ η) w) : Frz S (fun k => S k ∨ k ∈ ηr.flatten.map (·.1)) w0 w ηr ∧ Hp (fun k => S k ∨ k ∈ ηr.flatten.map (·.1)) w η w := by
  have hon := hh.once
  rw [List.flatten_append, List.map_append, List.nodup_append] at hon
  obtain ⟨n1, n2, n3⟩ := hon
  refine ⟨⟨fun η' w' h => ?_, fun a v h => ?_⟩, ?_⟩
  · refine ⟨h.os.trans hh.os, h.tape.trans hh.tape, h.output.trans hh.output, Nat.le_trans hh.drawn h.drawn, Nat.le_trans hh.size h.size, fun k hk => ⟨(hh.same k hk).1, ((h.same k (.inl hk)).2).trans (hh.same k hk).2⟩, fun p hp => ?_, ?_⟩
    · rw [List.flatten_append, List.mem_append] at hp
      rcases hp with hp | hp
      · have h1 := hh.own p (by rw [List.flatten_append, List.mem_append]; exact .inl hp)
        exact ⟨((h.same p.1 (.inr (List.mem_map.2 ⟨p, hp, rfl⟩))).2).trans h1.1, h1.2⟩
      · have h1 := h.own p hp
        exact ⟨h1.1, fun hs => h1.2 (.inl hs)⟩
    · rw [List.flatten_append, List.map_append, List.nodup_append]
      refine ⟨n1, h.once, fun a ha b hb hab => ?_⟩
      subst hab
      obtain ⟨p, hp, rfl⟩ := List.mem_map.1 hb
      exact (h.own p hp).2 (.inr ha)
  · cases h with
    | rd h hc =>
      refine .rd (.inl h) ?_
      have := (hh.same _ h).2
      simp only [World.cell?, this] at hc ⊢
      exact hc
    | own seg hs cs e fz hp hc hsp =>
      have hm : (a.block, Obj.cells cs e fz) ∈ ηr.flatten := List.mem_flatten.2 ⟨seg, hs, hp⟩
      have h1 := (hh.own _ (by rw [List.flatten_append, List.mem_append]; exact .inl hm)).1
      refine .rd (.inr (List.mem_map.2 ⟨_, hm, rfl⟩)) ?_
      simp only at h1
      simp [World.cell?, h1, hsp, hc]
  · refine ⟨rfl, rfl, rfl, Nat.le_refl _, Nat.le_refl _, fun k hk => ⟨?_, rfl⟩, fun p hp => ⟨(hh.own p (by rw [List.flatten_append, List.mem_append]; exact .inr hp)).1, ?_⟩, n2⟩
    · rcases hk with hk | hk
      · exact Nat.lt_of_lt_of_le (hh.same k hk).1 hh.size
      · obtain ⟨p, hp, rfl⟩ := List.mem_map.1 hk
        exact hh.lt (by rw [List.flatten_append, List.mem_append]; exact .inl hp)
    · rintro (hs | hs)
      · exact (hh.own p (by rw [List.flatten_append, List.mem_append]; exact .inr hp)).2 hs
      · exact n3 _ hs _ (List.mem_map.2 ⟨p, hp, rfl⟩) rfl
/-- From here on the blocks of ηr are only read. -/
theorem T.freeze {c : Code} (ηr : Heap) {η2 : Heap} (he : η = ηr ++ η2) (h : ∀ S' w1, Frz S S' w0 w1 ηr → T F P S' w1 n Q c ds σ η2) : T F P S w0 n Q c ds σ η := fun a w hk hh => by
  subst he
  obtain ⟨hz, h2⟩ := frz_mk hh
  exact h _ _ hz a w hk h2
theorem TL.freeze {l : List Oper} (ηr : Heap) {η2 : Heap} (he : η = ηr ++ η2) (h : ∀ S' w1, Frz S S' w0 w1 ηr → TL F P S' w1 n ops Q l ds σ η2) : TL F P S w0 n ops Q l ds σ η := fun a w hk hh => by
  subst he
  obtain ⟨hz, h2⟩ := frz_mk hh
  exact h _ _ hz a w hk h2
theorem Frz.old {S' : Nat → Prop} {w1 : World} {ηr : Heap} (hz : Frz S S' w0 w1 ηr) {a : Addr} {v : Value} (h : At S w0 [] a v) : At S' w1 [] a v := hz.get a v (h.up (by simp))
theorem Row.frz {S' : Nat → Prop} {w1 : World} {ηr : Heap} {a : Option Addr} {cs : List Value} (h : Row S w0 ηr a cs) (hz : Frz S S' w0 w1 ηr) : Row S' w1 [] a cs := ⟨h.ad, fun i v hi => hz.get _ _ (h.cell i v hi)⟩
theorem Row.old {S' : Nat → Prop} {w1 : World} {ηr : Heap} {a : Option Addr} {cs : List Value} (h : Row S w0 [] a cs) (hz : Frz S S' w0 w1 ηr) : Row S' w1 [] a cs := ⟨h.ad, fun i v hi => hz.old (h.cell i v hi)⟩
/-- The view at the start of a function, and how one comes back to it. -/
def Back (S S' : Nat → Prop) (w0 w1 : World) : Prop := ∀ η' w', Hp S' w1 η' w' → ∃ η2, Hp S w0 η2 w'
theorem Back.refl (S : Nat → Prop) (w0 : World) : Back S S w0 w0 := fun η' _ h => ⟨η', h⟩
theorem Back.frz {S' S2 : Nat → Prop} {w1 w2 : World} {ηr : Heap} (h : Back S S' w0 w1) (hz : Frz S' S2 w1 w2 ηr) : Back S S2 w0 w2 := fun _ _ h2 => h _ _ (hz.back _ _ h2)
/-- The end of a function whose result says nothing of memory. -/
theorem TQ.retsF {fn : Func} {S' : Nat → Prop} {w1 : World} (ts : List Nat) (vs : List Value) {v : Value} {R : Value → Heap → Prop} (hb : Back S S' w0 w1) (hr : fn.results = (ts.map ResultVar.tmp).toArray) (hv : lks σ ts = some vs) (he : retVal vs = v) (hR : ∀ η, R v η) :
    TQ S' w1 n (bodyPost P fn (post R S w0) .ret) [] σ η := fun a w hk hh => by
  obtain ⟨η2, h2⟩ := hb _ _ hh
  refine ⟨hk.defers, v, ?_, v, η2, rfl, h2, hR _⟩
  rw [results_run hr hk (lks_map hv), retVal_eq, he]
theorem TQ.retLF {fn : Func} {S' : Nat → Prop} {w1 : World} (ts : List Nat) (vs : List Value) {v : Value} {R : Value → Heap → Prop} (hb : Back S S' w0 w1) (hr : fn.results = (ts.map ResultVar.tmp).toArray) (hv : lks σ ts = some vs) (he : retVal vs = v) (hR : ∀ η, R v η) :
    TQ S' w1 n (bodyPostL P fn (post R S w0) .ret) [] σ η := fun a w hk hh => by
  show Lv P fn a.tmps (post R S w0) a.defers .returning w
  rw [hk.defers]
  obtain ⟨η2, h2⟩ := hb _ _ hh
  exact ⟨v, by rw [results_run hr hk (lks_map hv), retVal_eq, he], v, η2, rfl, h2, hR _⟩
end

/-! What arguments hold -/
section
open Go.ChangeShapes Go.WideShapes Go.Deep Go.RowKit
variable {H : Type} {enc : TypeId × Value → H} {P : Program} {W : World}
abbrev Old (W : World) : Nat → Prop := (· < W.heap.size)
theorem cell_lt {a : Addr} {v : Value} (h : W.cell? a = some v) : a.block < W.heap.size ∧ a.spot = none := by
  unfold World.cell? at h
  split at h
  · rename_i c e fz hb
    refine ⟨(Array.getElem?_eq_some_iff.1 hb).1, ?_⟩
    cases hs : a.spot with
    | none => rfl
    | some x => simp [hs] at h
  · cases h
theorem add_spot (a : Addr) (i : Nat) : (a.add i).spot = none → a.spot = none ∨ 0 < i := by
  intro h
  unfold Addr.add at h
  split at h
  · exact .inl h
  · rename_i hi; exact .inr (by omega)
/-- A slice that is read: its cells, and what each element reads as. -/
theorem slice_read {t e : TypeId} (ht : P.underlying t = some (.slice e)) (hc : 0 < P.cellsOf e) {fuel : Nat} {v : Value} {x : DataW H × List MemPlace} (h : DataW.trod enc P W 0 (fun _ => true) true fuel t [v] = some x) :
    ∃ (a : Option Addr) (len cap n : Nat) (cs : List Value), v = .slice a len cap ∧ len ≤ cap ∧ cap ≤ maxLen ∧ cs.length = len * P.cellsOf e ∧ Row (Old W) W [] a cs ∧
      ∀ i, i < len → ∃ y, DataW.trod enc P W 0 (fun _ => true) true n e ((cs.drop (i * P.cellsOf e)).take (P.cellsOf e)) = some y := by
  rcases open_slice ht h with ⟨hv, _⟩ | ⟨a, len, cap, m, n, D, Pl, hcs, _, hl, hm, hmm, _, hi⟩
  · have : v = .slice none 0 0 := by simpa using hv
    subst this
    exact ⟨none, 0, 0, 0, [], rfl, Nat.le_refl _, Nat.zero_le _, by simp, ⟨fun h => by simp at h, fun i v h => by simp at h⟩, fun i hi => by omega⟩
  · have : v = .slice (some a) len cap := by simpa using hcs
    subst this
    simp only [if_true] at hmm
    have hx : ∀ i, i < len → ∃ cs', W.cells? 0 (a.add (i * P.cellsOf e)) (P.cellsOf e) = some cs' ∧ DataW.trod enc P W 0 (fun _ => true) true n e cs' = some (D i, Pl i) := fun i h => hi i (by omega)
    obtain ⟨C, hC⟩ := choose_lt (α := List Value) hx
    have hlen : ∀ i, i < len → (C i).length = P.cellsOf e := fun i h => (World.cells?_some (hC i h).1).2.1
    have hcell : ∀ i j, i < len → j < P.cellsOf e → W.cell? (a.add (i * P.cellsOf e + j)) = (C i)[j]? := fun i j h1 h2 => by
      have := (World.cells?_some (hC i h1).1).2.2 j h2
      rwa [Go.Deep.add_add] at this
    let f : Nat → List Value := fun i => if i < len then C i else List.replicate (P.cellsOf e) undef
    have hf : ∀ i, (f i).length = P.cellsOf e := fun i => by
      simp only [f]; split
      · exact hlen i (by assumption)
      · simp
    have hget : ∀ i j, i < len → j < P.cellsOf e → ((List.range len).flatMap f)[i * P.cellsOf e + j]? = (C i)[j]? := fun i j h1 h2 => by
      rw [flat_get _ f hf _ i j h2]
      simp [h1, f]
    have htot : ((List.range len).flatMap f).length = len * P.cellsOf e := by
      rw [List.length_flatMap]
      have : (List.range len).map (fun i => (f i).length) = List.replicate len (P.cellsOf e) := by
        apply List.ext_getElem
        · simp
        · intro i h1 h2; simp [hf]
      rw [this, List.sum_replicate_nat]
    have hsp : 0 < len → a.spot = none ∧ a.block < W.heap.size := fun h0 => by
      have h1 := hcell 0 0 h0 hc
      have h2 : (C 0)[0]? = some ((C 0)[0]'(by rw [hlen 0 h0]; exact hc)) := List.getElem?_eq_getElem _
      rw [h2] at h1
      have h3 := cell_lt h1
      simpa [Addr.add] using h3.symm
    have hadd : a.spot = none → ∀ k, a.add k = sAt (some a) k := fun hs k => by
      obtain ⟨b, o, s⟩ := a
      simp only at hs; subst hs
      unfold Addr.add sAt; split
      · rename_i h; simp [h]
      · rfl
    refine ⟨some a, len, cap, n, (List.range len).flatMap f, rfl, hl, hm, htot, ⟨fun h0 => ?_, fun k v hk => ?_⟩, fun i hil => ⟨(D i, Pl i), ?_⟩⟩
    · rw [htot] at h0
      exact ⟨a, rfl, (hsp (Nat.pos_of_mul_pos_right h0)).1⟩
    · have hkl := (List.getElem?_eq_some_iff.1 hk).1
      rw [htot] at hkl
      have h1 : k / P.cellsOf e < len := by rw [Nat.div_lt_iff_lt_mul hc]; exact hkl
      have h2 : k % P.cellsOf e < P.cellsOf e := Nat.mod_lt _ hc
      have h3 : k / P.cellsOf e * P.cellsOf e + k % P.cellsOf e = k := Nat.div_add_mod' k (P.cellsOf e)
      have h4 := hget _ _ h1 h2
      rw [h3, hk] at h4
      have h5 := hcell _ _ h1 h2
      rw [h3, ← h4] at h5
      obtain ⟨hs, hbl⟩ := hsp (Nat.lt_of_le_of_lt (Nat.zero_le _) h1)
      rw [hadd hs] at h5
      exact .rd hbl h5
    · have e1 : (((List.range len).flatMap f).drop (i * P.cellsOf e)).take (P.cellsOf e) = C i := by
        apply List.ext_getElem?
        intro j
        rw [List.getElem?_take]
        by_cases hj : j < P.cellsOf e
        · rw [if_pos hj, List.getElem?_drop, hget i j hil hj]
        · rw [if_neg hj, List.getElem?_eq_none (by rw [hlen i hil]; omega)]
      rw [e1]; exact (hC i hil).2
/-- A slice of integers. -/
theorem ints_read {t e : TypeId} {k : IntKind} (ht : P.underlying t = some (.slice e)) (he : P.underlying e = some (.int k)) (hc : P.cellsOf e = 1) {fuel : Nat} {v : Value} {x : DataW H × List MemPlace} (h : DataW.trod enc P W 0 (fun _ => true) true fuel t [v] = some x) :
    ∃ (a : Option Addr) (xs : List Int) (cap : Nat), v = .slice a xs.length cap ∧ xs.length ≤ maxLen ∧ Row (Old W) W [] a (xs.map (Value.int k)) ∧ ∀ i ∈ xs, (Lit.int k i).wf = true := by
  obtain ⟨a, len, cap, n, cs, rfl, hl, hm, hlen, hrow, hel⟩ := slice_read ht (by omega) h
  rw [hc] at hlen hel
  rw [Nat.mul_one] at hlen
  have hx : ∀ i, i < len → ∃ z : Int, cs[i]? = some (.int k z) ∧ (Lit.int k z).wf = true := fun i hi => by
    obtain ⟨y, hy⟩ := hel i hi
    obtain ⟨z, h1, _, h3⟩ := DataW.trod_int he hy
    refine ⟨z, ?_, h3⟩
    have : ((cs.drop (i * 1)).take 1)[0]? = some (.int k z) := by rw [h1]; rfl
    simpa using this
  obtain ⟨f, hf⟩ := choose_lt (α := Int) hx
  have e : cs = ((List.range len).map f).map (Value.int k) := by
    apply List.ext_getElem?
    intro i
    by_cases hi : i < len
    · rw [(hf i hi).1]; simp [hi]
    · rw [List.getElem?_eq_none (by omega)]; simp [hi]
  refine ⟨a, (List.range len).map f, cap, by simp, by simp; omega, by rw [← e]; exact hrow, fun z hz => ?_⟩
  obtain ⟨i, hi, rfl⟩ := List.mem_map.1 hz
  exact (hf i (by simpa using hi)).2
theorem wf_i64 {z : Int} (h : (Lit.int .i64 z).wf = true) : -9223372036854775808 ≤ z ∧ z ≤ 9223372036854775807 := by
  simp only [Lit.wf, Bool.and_eq_true, decide_eq_true_eq] at h; exact h
theorem wf_u16 {z : Int} (h : (Lit.int .u16 z).wf = true) : 0 ≤ z ∧ z ≤ 65535 := by
  simp only [Lit.wf, Bool.and_eq_true, decide_eq_true_eq] at h; exact h
theorem wf_u8 {z : Int} (h : (Lit.int .u8 z).wf = true) : 0 ≤ z ∧ z ≤ 255 := by
  simp only [Lit.wf, Bool.and_eq_true, decide_eq_true_eq] at h; exact h
theorem wf_u64 {z : Int} (h : (Lit.int .u64 z).wf = true) : 0 ≤ z ∧ z ≤ 18446744073709551615 := by
  simp only [Lit.wf, Bool.and_eq_true, decide_eq_true_eq] at h; exact h
theorem wf_u32 {z : Int} (h : (Lit.int .u32 z).wf = true) : 0 ≤ z ∧ z ≤ 4294967295 := by
  simp only [Lit.wf, Bool.and_eq_true, decide_eq_true_eq] at h; exact h

/-- A struct that is read: what its fields read as. -/
theorem struct_read {t : TypeId} {l : List (TypeId × Nat)} (hs : (match P.underlying t with | some (.struct fs) => some (fs.toList.map fun f => (f.type, f.offset)) | _ => none) = some l) {fuel : Nat} {cs : List Value} {x : DataW H × List MemPlace} (h : DataW.trod enc P W 0 (fun _ => true) true fuel t cs = some x) :
    ∃ n : Nat, cs.length = P.cellsOf t ∧ ∀ (i : Nat) (ty : TypeId) (off : Nat), l[i]? = some (ty, off) → ∃ y, DataW.trod enc P W 0 (fun _ => true) true n ty ((cs.drop off).take (P.cellsOf ty)) = some y := by
  cases hu : P.underlying t with
  | none => rw [hu] at hs; cases hs
  | some d =>
    cases d with
    | struct fs =>
      rw [hu] at hs
      simp only [Option.some.injEq] at hs
      subst hs
      obtain ⟨xs, n, _, _, hl, hxl, hf⟩ := DataW.trod_struct hu h
      refine ⟨n, hl, fun i ty off hi => ?_⟩
      rw [List.getElem?_map] at hi
      cases hfi : fs.toList[i]? with
      | none => rw [hfi] at hi; cases hi
      | some f =>
        rw [hfi] at hi
        simp only [Option.map_some, Option.some.injEq, Prod.mk.injEq] at hi
        obtain ⟨rfl, rfl⟩ := hi
        have hfi2 : fs[i]? = some f := by simpa using hfi
        have hil : i < xs.length := by rw [hxl]; exact (Array.getElem?_eq_some_iff.1 hfi2).1
        exact ⟨xs[i], by rw [hf i f hfi2]; exact List.getElem?_eq_getElem hil⟩
    | _ => rw [hu] at hs; cases hs
/-- The cells of a slice, element by element. -/
theorem list_read {α : Type} {c : Nat} {Q : α → Prop} (f : α → List Value) : ∀ {len : Nat} {cs : List Value}, cs.length = len * c → (∀ i, i < len → ∃ x, (cs.drop (i * c)).take c = f x ∧ Q x) → ∃ l : List α, l.length = len ∧ cs = l.flatMap f ∧ ∀ x ∈ l, Q x
  | 0, cs, hl, _ => ⟨[], rfl, by simpa using hl, by simp⟩
  | len + 1, cs, hl, h => by
    obtain ⟨x, hx, hq⟩ := h 0 (by omega)
    rw [Nat.add_mul, Nat.one_mul] at hl
    obtain ⟨l, h1, h2, h3⟩ := list_read (c := c) (Q := Q) (len := len) (cs := cs.drop c) f (by rw [List.length_drop]; omega) (fun i hi => by
      obtain ⟨y, hy, hqy⟩ := h (i + 1) (by omega)
      refine ⟨y, ?_, hqy⟩
      rw [List.drop_drop, ← hy, Nat.add_mul, Nat.one_mul, Nat.add_comm])
    refine ⟨x :: l, by simp [h1], ?_, fun y hy => ?_⟩
    · rw [List.flatMap_cons, ← h2, ← hx]
      simp
    · rcases List.mem_cons.1 hy with rfl | hy
      · exact hq
      · exact h3 y hy
theorem slice_form {t e : TypeId} (ht : P.underlying t = some (.slice e)) {fuel : Nat} {cs : List Value} {x : DataW H × List MemPlace} (h : DataW.trod enc P W 0 (fun _ => true) true fuel t cs = some x) : ∃ a l c, cs = [.slice a l c] := by
  rcases open_slice ht h with ⟨hv, _⟩ | ⟨a, len, cap, m, n, D, Pl, hcs, _⟩
  · exact ⟨_, _, _, hv⟩
  · exact ⟨_, _, _, hcs⟩

/-! The frame of a law: it answers true, and of what was there nothing has turned. -/
theorem calls_true {f : FuncId} {args : Array Value} (h : Rt P f args (Old W) W [] fun v _ => v = .bool true) : Calls P f args W fun e W' => e = .returned (.bool true) ∧ Below W.heap.size W W' :=
  (h W (Hp.start W)).mono fun _ _ ⟨v, _, h1, h2, h3⟩ => ⟨by rw [h1, h3], h2.below⟩
theorem trodAll_below (hl : laidOutB P = true) {W' : World} (hb : Below W.heap.size W W') : ∀ {ts : List TypeId} {vs : List Value} {ds : List (DataW H)} {ps : List MemPlace}, (∀ t ∈ ts, P.readableRec t = true ∧ t < P.types.size) → (∀ x ∈ ps, x.block < W.heap.size) →
    DataW.TrodAll enc P W 0 (fun _ => true) true ts vs ds ps → DataW.TrodAll enc P W' 0 (fun b => decide (b < W.heap.size)) true ts vs ds ps
  | [], vs, ds, ps, _, _, h => by
    obtain ⟨rfl, rfl, rfl⟩ := trodAll_nil h
    exact h
  | t :: ts, vs, ds, ps, hr, hlt, h => by
    obtain ⟨v, vs', d, ds', p, q, rfl, rfl, rfl, h1, h2⟩ := trodAll_cons h
    have ht := hr t List.mem_cons_self
    exact ⟨p, q, Below.trod hl ht.1 ht.2 h1 hb (fun x hx => hlt x (by simp [hx])), trodAll_below hl hb (fun t h => hr t (List.mem_cons_of_mem _ h)) (fun x hx => hlt x (by simp [hx])) h2, rfl⟩
theorem law_post {f : Func} {s : ChangeSpec} (hl : laidOutB P = true) (hv : s.vars = []) (bt : TypeId) (hrt : f.resultTypes = #[bt]) (hbt : P.underlying bt = some .bool) {W' : World} {args : Array Value} {ds gs : List (DataW H)} {before : List MemPlace}
    (hW : DataW.Whole enc P f.params.toList s.vars false W args.toList ds gs before) (hfn : s.fn H ds = { results := [.lit (.bool true)], args := ds }) (hr : ∀ t ∈ f.params.toList, P.readableRec t = true ∧ t < P.types.size) (hb : Below W.heap.size W W') :
    s.post enc P f false true false false W args (.bool true) W' := by
  have hlt := fun p hp => hW.lt p hp
  have hW2 := hW
  obtain ⟨p, q, h1, h2, rfl, _, _⟩ := hW
  rw [hv] at h2
  obtain ⟨rfl, rfl⟩ := trodVars_none h2
  have e : s.fn H (ds ++ []) = { results := [.lit (.bool true)], args := ds } := by rw [List.append_nil]; exact hfn
  refine ⟨ds, [], _, [], p, [], hW2, ?_, ?_, ?_, hb.frame _, fun h => by cases h⟩
  · rw [e, hrt]
    exact trodAll_mk1 (shut_bool hbt true)
  · rw [e]
    exact trodAll_below hl hb hr (fun x hx => hlt x (by simp [hx])) h1
  · rw [e, hv]; rfl
end
end Go.Sl
/- Some of the owned blocks, in whatever order; three operations that may come next; ends of a part. -/
namespace Go.Sl
section
variable {F : Fence} {P : Program} {S : Nat → Prop} {w0 w : World} {n : Nat} {Q : Exit → Act → World → Prop} {ds : List Deferred} {σ : Env} {η : Heap} {ops : Array Oper}
def distinctN : List Nat → Bool
  | [] => true
  | x :: r => r.all (fun y => !Nat.beq x y) && distinctN r
def pickOk (idx : List Nat) (m : Nat) : Bool := distinctN idx && idx.all fun i => Nat.blt i m
def pickL (idx : List Nat) (pre : Heap) : Heap := idx.map fun i => pre.getD i []
theorem distinctN_spec : ∀ {l : List Nat}, distinctN l = true → l.Pairwise (· ≠ ·)
  | [], _ => List.Pairwise.nil
  | x :: r, h => by
    simp only [distinctN, Bool.and_eq_true, List.all_eq_true] at h
    refine List.pairwise_cons.2 ⟨fun y hy e => ?_, distinctN_spec h.2⟩
    have := h.1 y hy
    rw [e] at this; simp at this
theorem Hp.pick {pre tail : Heap} (idx : List Nat) (ho : pickOk idx pre.length = true) (hh : Hp S w0 (pre ++ tail) w) : Hp S w0 (pickL idx pre ++ tail) w := by
  simp only [pickOk, Bool.and_eq_true, List.all_eq_true] at ho
  have hd := distinctN_spec ho.1
  have hlt : ∀ i ∈ idx, i < pre.length := fun i hi => Nat.le_of_ble_eq_true (ho.2 i hi)
  have hget : ∀ i, i < pre.length → pre.getD i [] ∈ pre := fun i hi => by
    rw [List.getD_eq_getElem?_getD, List.getElem?_eq_getElem hi]; exact List.getElem_mem hi
  have hmem : ∀ s ∈ pickL idx pre, s ∈ pre := fun s hs => by
    obtain ⟨i, hi, rfl⟩ := List.mem_map.1 hs
    exact hget i (hlt i hi)
  refine hh.sub (fun p hp => ?_) ?_
  · obtain ⟨s, hs, hps⟩ := List.mem_flatten.1 hp
    refine List.mem_flatten.2 ⟨s, ?_, hps⟩
    rcases List.mem_append.1 hs with h | h
    · exact List.mem_append_left _ (hmem s h)
    · exact List.mem_append_right _ h
  · have hon := hh.once
    rw [List.map_flatten, List.map_append] at hon ⊢
    rw [List.Nodup, List.pairwise_flatten, List.pairwise_append] at hon ⊢
    obtain ⟨h1, h2, h3, h4⟩ := hon
    refine ⟨fun l hl => h1 l ?_, ?_, h3, fun a ha b hb => h4 a ?_ b hb⟩
    · rcases List.mem_append.1 hl with h | h
      · obtain ⟨s, hs, rfl⟩ := List.mem_map.1 h
        exact List.mem_append_left _ (List.mem_map.2 ⟨s, hmem s hs, rfl⟩)
      · exact List.mem_append_right _ h
    · unfold pickL
      rw [List.map_map, List.pairwise_map]
      refine hd.imp_of_mem fun {i j} hi hj hne => ?_
      rw [List.pairwise_map, List.pairwise_iff_getElem] at h2
      have hi' := hlt i hi
      have hj' := hlt j hj
      have e1 : pre.getD i [] = pre[i] := by rw [List.getD_eq_getElem?_getD, List.getElem?_eq_getElem hi']; rfl
      have e2 : pre.getD j [] = pre[j] := by rw [List.getD_eq_getElem?_getD, List.getElem?_eq_getElem hj']; rfl
      simp only [Function.comp_apply, e1, e2]
      rcases Nat.lt_or_gt_of_ne hne with h | h
      · exact h2 i j hi' hj' h
      · exact fun x hx y hy e => h2 j i hj' hi' h y hy x hx e.symm
    · obtain ⟨s, hs, rfl⟩ := List.mem_map.1 ha
      exact List.mem_map.2 ⟨s, hmem s hs, rfl⟩
/-- Some of the first blocks, in this order. -/
theorem TQ.pick {K : Act → World → Prop} (idx : List Nat) (pre : Heap) {tail η' : Heap} (he : η = pre ++ tail) (ho : pickOk idx pre.length = true) (hp : pickL idx pre ++ tail = η') (h : TQ S w0 n K ds σ η') : TQ S w0 n K ds σ η := fun a w hk hh => by
  subst he; subst hp; exact h a w hk (hh.pick idx ho)
theorem T.pick {c : Code} (idx : List Nat) (pre : Heap) {tail η' : Heap} (he : η = pre ++ tail) (ho : pickOk idx pre.length = true) (hp : pickL idx pre ++ tail = η') (h : T F P S w0 n Q c ds σ η') : T F P S w0 n Q c ds σ η := fun a w hk hh => by
  subst he; subst hp; exact h a w hk (hh.pick idx ho)
theorem TL.pick' {l : List Oper} (idx : List Nat) (pre : Heap) {tail η' : Heap} (he : η = pre ++ tail) (ho : pickOk idx pre.length = true) (hp : pickL idx pre ++ tail = η') (h : TL F P S w0 n ops Q l ds σ η') : TL F P S w0 n ops Q l ds σ η := fun a w hk hh => by
  subst he; subst hp; exact h a w hk (hh.pick idx ho)
/-- The same heap, in other words. -/
theorem TQ.heap {K : Act → World → Prop} {η' : Heap} (he : η = η') (h : TQ S w0 n K ds σ η') : TQ S w0 n K ds σ η := he ▸ h
theorem T.heap {c : Code} {η' : Heap} (he : η = η') (h : T F P S w0 n Q c ds σ η') : T F P S w0 n Q c ds σ η := he ▸ h
theorem TL.heap {l : List Oper} {η' : Heap} (he : η = η') (h : TL F P S w0 n ops Q l ds σ η') : TL F P S w0 n ops Q l ds σ η := he ▸ h
/-- Three heavy operations may come next. -/
theorem DH.heavy3 {l : List Oper} {m : Nat} {V : VL} {h1 h2 h3 : Nat} (hd : dagOk l = true) (ht : tailOk l m = true) (hq : dstsOk l m = true) (hcomp : complete l m V [h1, h2, h3] = true) (b1 : HB F P S w0 n l ds σ Q m V η h1) (b2 : HB F P S w0 n l ds σ Q m V η h2) (b3 : HB F P S w0 n l ds σ Q m V η h3) : DH F P S w0 n l ds σ Q m V η :=
  DH.node [h1, h2, h3] hd ht hq hcomp (fun h' hh => by
    rcases List.mem_cons.1 hh with e | hh
    · subst e; exact b1
    · rcases List.mem_cons.1 hh with e | hh
      · subst e; exact b2
      · have : h' = h3 := by simpa using hh
        subst this; exact b3) (fun ha => by obtain ⟨_, _, _, _, _, him, hnew, _⟩ := b1; exact not_all him hnew ha)
/-- An owned slice that is not empty: its block; and a cell of it that is written. -/
theorem OSl.ex {e : TypeId} {sz k : Nat} {v : Value} {xs : List Value} {seg : Seg} (h : OSl e sz v k xs seg) (hk : 0 < k) : ∃ g cap cur, v = .slice (some ⟨g, 0, none⟩) k cap ∧ seg = [(g, .cells cur e (0, 0))] ∧ k * sz ≤ cur.size := by
  rcases h.2 with ⟨_, h0, _⟩ | ⟨g, cap, cur, hv, hs, hc, hz, _⟩
  · omega
  · exact ⟨g, cap, cur, hv, hs, by rw [hz]; exact Nat.mul_le_mul_right _ hc⟩
theorem OSl.put {e : TypeId} {sz k g cap j : Nat} {cur : Array Value} {xs : List Value} {u : Value} (h : OSl e sz (.slice (some ⟨g, 0, none⟩) k cap) k xs [(g, .cells cur e (0, 0))]) : OSl e sz (.slice (some ⟨g, 0, none⟩) k cap) k (xs.set j u) [(g, .cells (cur.setIfInBounds j u) e (0, 0))] := by
  refine ⟨by rw [List.length_set]; exact h.1, ?_⟩
  rcases h.2 with ⟨h0, _⟩ | ⟨g', cap', cur', hv, hs, hc, hz, ht⟩
  · cases h0
  · simp only [Value.slice.injEq, Option.some.injEq, Addr.mk.injEq, and_true, true_and] at hv
    obtain ⟨rfl, rfl⟩ := hv
    simp only [List.cons.injEq, Prod.mk.injEq, Obj.cells.injEq, true_and, and_true] at hs
    subst hs
    refine .inr ⟨g, cap, _, rfl, rfl, hc, by simpa using hz, ?_⟩
    rw [Array.toList_setIfInBounds, List.take_set, ht]
theorem cut0' (a : Option Addr) (c sz : Nat) : (if c = 0 then a else a.map (·.add (0 * sz))) = a := by
  split
  · rfl
  · rw [Nat.zero_mul]
    cases a with
    | none => rfl
    | some x => simp [Addr.add]
/-- A division of naturals. -/
theorem TL.quoN (hF : Open F) {rest : List Oper} {d : Nat} {ty : TypeId} {pos : String} {af : Array Edge} {xt yt : TypeId} {x y : Operand} {k : IntKind} {a b : Nat} (hx : ev σ x = some (.int k (a : Int))) (hy : ev σ y = some (.int k (b : Int))) (hb : 0 < b) (hk : k.wrap ((a / b : Nat) : Int) = ((a / b : Nat) : Int)) (hn : Nat.blt d n = true)
    (h : TL F P S w0 n ops Q rest ds ((d, .int k ((a / b : Nat) : Int)) :: σ) η) : TL F P S w0 n ops Q (⟨some d, .binOp .quo xt x y yt, ty, pos, af, none⟩ :: rest) ds σ η :=
  TL.pure hF (by intro c; simp) hn (fun c w hk2 _ => by
    have hb' : (Op.intDiv .quo k (a : Int) (b : Int)).run P w = .ok (.int k ((a / b : Nat) : Int)) w := by
      unfold Op.intDiv
      rw [if_neg (by omega)]
      simp only [Sem.run_pure]
      have e : Int.tdiv (a : Int) (b : Int) = ((a / b : Nat) : Int) := by simp
      first | rw [e, hk] | (simp only [e]; rw [hk]) | simp [e, hk]
    simp [execOp, hk2.ev hx, hk2.ev hy, eqGuard, binOp, hb']) h
end
section
open Go.ChangeShapes Go.WideShapes Go.Deep Go.RowKit
variable {H : Type} {enc : TypeId × Value → H} {P : Program} {W : World}
/-- A slice of integers that are not negative. -/
theorem nats_read {t e : TypeId} {k : IntKind} (B : Nat) (hB : ∀ z, (Lit.int k z).wf = true → 0 ≤ z ∧ z < (B : Int)) (ht : P.underlying t = some (.slice e)) (he : P.underlying e = some (.int k)) (hc : P.cellsOf e = 1) {fuel : Nat} {v : Value} {x : DataW H × List MemPlace} (h : DataW.trod enc P W 0 (fun _ => true) true fuel t [v] = some x) :
    ∃ (a : Option Addr) (xs : List Nat) (cap : Nat), v = .slice a xs.length cap ∧ xs.length ≤ cap ∧ xs.length < 2 ^ 63 ∧ Row (Old W) W [] a (xs.map fun (n : Nat) => .int k (n : Int)) ∧ ∀ n ∈ xs, n < B := by
  obtain ⟨a, len, cap, n, cs, rfl, hl, hm, hlen, hrow, hel⟩ := slice_read ht (by omega) h
  rw [hc] at hlen hel
  obtain ⟨l, h1, h2, h3⟩ := list_read (c := 1) (Q := fun n : Nat => n < B) (fun (n : Nat) => [Value.int k (n : Int)]) hlen (fun i hi => by
    obtain ⟨y, hy⟩ := hel i hi
    obtain ⟨z, h1, _, h3⟩ := DataW.trod_int he hy
    have := hB z h3
    exact ⟨z.toNat, by rw [h1, Int.toNat_of_nonneg this.1], by omega⟩)
  subst h1
  refine ⟨a, l, cap, rfl, hl, by unfold maxLen at hm; omega, ?_, h3⟩
  have e : (l.map fun (n : Nat) => Value.int k (n : Int)) = cs := by rw [h2, List.map_eq_flatMap]
  rw [e]; exact hrow
theorem b16 (z : Int) (h : (Lit.int .u16 z).wf = true) : 0 ≤ z ∧ z < ((65536 : Nat) : Int) := by have := wf_u16 h; omega
theorem b8 (z : Int) (h : (Lit.int .u8 z).wf = true) : 0 ≤ z ∧ z < ((256 : Nat) : Int) := by have := wf_u8 h; omega
end
end Go.Sl
/- Maps: an entry of a literal; an entry that is taken away. -/
namespace Go.Sl
section
variable {F : Fence} {P : Program} {S : Nat → Prop} {w0 w : World} {n : Nat} {Q : Exit → Act → World → Prop} {ds : List Deferred} {σ : Env} {η : Heap} {ops : Array Oper} {rest : List Oper} {ty : TypeId} {pos : String} {af : Array Edge}
theorem TL.insert (hF : Open F) (i : Nat) {t kt et : TypeId} [Und P t (.map kt et)] {α β : Type} [DecidableEq α] {K : α → Value} [MKey P kt K] (V : β → Value) {m : List (α × β)} {es : Array MapEntry} {clock b : Nat} (k : α) (v : β)
    {x y z : Operand} (hx : ev σ x = some (.map (some b))) (hy : ev σ y = some (K k)) (hz : ev σ z = some (V v)) (hi : η[i]? = some [(b, .map es clock)]) (hm : MObj K V m es clock)
    (h : ∀ es' clock', MObj K V (mput k v m) es' clock' → TL F P S w0 n ops Q rest ds σ (η.set i [(b, .map es' clock')])) : TL F P S w0 n ops Q (⟨none, .insert t x y z, ty, pos, af, none⟩ :: rest) ds σ η :=
  TL.act hF (by intro c; simp) fun a w hk hh => by
    have hb := hh.inMem (List.mem_of_getElem? hi)
    have h1 := MKey.find (P := P) (kt := kt) (K := K) k es.toList (m.map (·.1)) w (by rw [hm.keys]; simp)
    have hput := hm.put k v
    cases hf : fidx k (m.map (·.1)) with
    | none =>
      rw [hf] at h1
      refine ⟨_, _, ?_, hh.turnI hi (.map (es.push { key := K k, val := V v, born := clock }) (clock + 1)), h _ _ (hput.2 hf)⟩
      have h1' : (Instr.findKey kt (K k) es.toList).run P w = .ok none w := h1
      simp [execOp, hk.ev hx, hk.ev hy, hk.ev hz, Instr.mapUpdate, run_underlying (t := t) (d := .map kt et), run_getMap hb, MKey.chk, h1', run_setB _ hb (.inl ⟨_, _, rfl⟩)]
    | some j =>
      rw [hf] at h1
      refine ⟨_, _, ?_, hh.turnI hi (.map (es.modify j fun e => { e with key := K k, val := V v }) clock), h _ _ (hput.1 j hf)⟩
      have hkey : ((es[j]?).map (·.key)).getD (K k) = K k := by
        have h2 := congrArg (fun l : List Value => l[j]?) hm.keys
        have h3 := fidx_lt hf
        simp only [List.getElem?_map] at h2 h3
        cases hmj : m[j]? with
        | none => simp [hmj] at h3
        | some p =>
          simp only [hmj, Option.map_some, Option.some.injEq] at h2 h3
          rw [h3] at h2
          rw [← Array.getElem?_toList, h2]; rfl
      have h1' : (Instr.findKey kt (K k) es.toList).run P w = .ok (some (j, ((es.toList[j]?).map (·.val)).getD undef)) w := h1
      have hst : (Instr.keyThatStays (K k) (K k)).run P w = .ok (K k) w := by simp [Instr.keyThatStays, MKey.same (P := P) (kt := kt) (K := K)]
      simp only [execOp, hk.ev hx, hk.ev hy, hk.ev hz, Instr.mapUpdate, Sem.run_bind, run_underlying (t := t) (d := .map kt et), Result.andThen_ok, run_getMap hb, MKey.chk, h1', hkey, hst, run_setB _ hb (.inl ⟨_, _, rfl⟩), Sem.run_pure]
theorem erase_map {α β : Type} (f : α → β) : ∀ (l : List α) (i : Nat), (l.eraseIdx i).map f = (l.map f).eraseIdx i
  | [], _ => rfl
  | x :: r, 0 => rfl
  | x :: r, i + 1 => by simp [List.eraseIdx, erase_map f r i]
theorem MObj.del {α β : Type} [DecidableEq α] {K : α → Value} {V : β → Value} {m : List (α × β)} {es : Array MapEntry} {clock i : Nat} (h : MObj K V m es clock) : MObj K V (m.eraseIdx i) (es.eraseIdxIfInBounds i) clock := by
  have e : (es.eraseIdxIfInBounds i).toList = es.toList.eraseIdx i := by simp
  refine ⟨?_, ?_, ?_, ?_, fun x hx => ?_⟩
  · rw [e, erase_map, h.keys, erase_map]
  · rw [e, erase_map, h.vals, erase_map]
  · rw [erase_map]; exact h.nd.sublist (List.eraseIdx_sublist _ _)
  · rw [e, erase_map]; exact h.born.sublist (List.eraseIdx_sublist _ _)
  · rw [e] at hx; exact h.old x ((List.eraseIdx_sublist _ _).subset hx)
theorem ItOk.del {α β : Type} {m : List (α × β)} {es : Array MapEntry} {seen : Array Nat} {done : List α} {i : Nat} (h : ItOk m es seen done) : ItOk (m.eraseIdx i) (es.eraseIdxIfInBounds i) seen done := by
  intro j e p he hp
  rw [show (es.eraseIdxIfInBounds i).toList = es.toList.eraseIdx i by simp, List.getElem?_eraseIdx] at he
  rw [List.getElem?_eraseIdx] at hp
  split at he
  · rename_i hj; rw [if_pos hj] at hp; exact h j e p he hp
  · rename_i hj; rw [if_neg hj] at hp; exact h (j + 1) e p he hp
theorem TL.delete (hF : Open F) (i : Nat) {t kt et tk : TypeId} [Und P t (.map kt et)] {α β : Type} [DecidableEq α] {K : α → Value} [MKey P kt K] (V : β → Value) {m : List (α × β)} {es : Array MapEntry} {clock b : Nat} (k : α)
    {x y : Operand} (hx : ev σ x = some (.map (some b))) (hy : ev σ y = some (K k)) (hi : η[i]? = some [(b, .map es clock)]) (hm : MObj K V m es clock)
    (h : ∀ es', MObj K V (mdel k m) es' clock → (∀ seen done, ItOk m es seen done → ItOk (mdel k m) es' seen done) → TL F P S w0 n ops Q rest ds σ (η.set i [(b, .map es' clock)])) : TL F P S w0 n ops Q (⟨none, .call ⟨.builtin .delete, #[x, y], #[t, tk]⟩, ty, pos, af, none⟩ :: rest) ds σ η :=
  TL.op hF rfl (by intro c; simp) fun a w hk hh => by
    have hb := hh.inMem (List.mem_of_getElem? hi)
    have h1 := MKey.find (P := P) (kt := kt) (K := K) k es.toList (m.map (·.1)) w (by rw [hm.keys]; simp)
    cases hf : fidx k (m.map (·.1)) with
    | none =>
      rw [hf] at h1
      have h1' : (Instr.findKey kt (K k) es.toList).run P w = .ok none w := h1
      have hrun : (execOp a.eval ⟨none, .call ⟨.builtin .delete, #[x, y], #[t, tk]⟩, ty, pos, af, none⟩).run P w = .ok (.value (.tuple #[])) (putBlk w b (.map es clock)) := by
        simp [execOp, resolve, Go.invoke, Go.builtin, Builtin.delete_, hk.ev hx, hk.ev hy, run_underlying (t := t) (d := .map kt et), run_getMap hb, MKey.chk, h1', run_setB _ hb (.inl ⟨_, _, rfl⟩)]
      rw [hrun]
      rw [mdel_none hf] at h
      exact h es hm (fun _ _ h => h) _ _ hk (hh.turnI hi _)
    | some j =>
      rw [hf] at h1
      have h1' : (Instr.findKey kt (K k) es.toList).run P w = .ok (some (j, ((es.toList[j]?).map (·.val)).getD undef)) w := h1
      have hrun : (execOp a.eval ⟨none, .call ⟨.builtin .delete, #[x, y], #[t, tk]⟩, ty, pos, af, none⟩).run P w = .ok (.value (.tuple #[])) (putBlk w b (.map (es.eraseIdxIfInBounds j) clock)) := by
        simp only [execOp, resolve, Go.invoke, Go.builtin, Builtin.delete_, hk.ev hx, hk.ev hy, Sem.run_bind, run_underlying (t := t) (d := .map kt et), Result.andThen_ok, run_getMap hb, MKey.chk, h1', run_setB _ hb (.inl ⟨_, _, rfl⟩), Sem.run_pure, List.getElem?_toArray, List.getElem?_cons_zero, List.getElem?_cons_succ, List.map_toArray, List.map_cons, List.map_nil]
      rw [hrun]
      rw [mdel_at hf] at h
      exact h _ hm.del (fun _ _ h => h.del) _ _ hk (hh.turnI hi _)
theorem mget_mdel {α β : Type} [DecidableEq α] (k k' : α) : ∀ {m : List (α × β)}, (m.map (·.1)).Nodup → mget k' (mdel k m) = if k' = k then none else mget k' m
  | [], _ => by simp [mdel, mget]
  | (a, b) :: r, hn => by
    simp only [List.map_cons, List.nodup_cons] at hn
    have ih := mget_mdel k k' hn.2
    unfold mdel
    by_cases h : k = a
    · subst h
      rw [if_pos rfl]
      by_cases h2 : k' = k
      · subst h2
        rw [if_pos rfl, mget_none]
        exact fun p hp e => hn.1 (by rw [← e]; exact List.mem_map.2 ⟨p, hp, rfl⟩)
      · rw [if_neg h2]; simp [mget, h2]
    · rw [if_neg h]
      simp only [mget, ih]
      by_cases h2 : k' = a
      · subst h2; rw [if_pos rfl, if_neg (fun e => h e.symm), if_pos rfl]
      · rw [if_neg h2, if_neg h2]
theorem mem_mdel {α β : Type} [DecidableEq α] {k : α} {p : α × β} : ∀ {m : List (α × β)}, p ∈ mdel k m → p ∈ m
  | [], h => by simp [mdel] at h
  | (a, b) :: r, h => by
    unfold mdel at h
    split at h
    · exact List.mem_cons_of_mem _ h
    · rcases List.mem_cons.1 h with rfl | h
      · exact List.mem_cons_self
      · exact List.mem_cons_of_mem _ (mem_mdel h)
end
end Go.Sl
/- Maps: an entry that is reached, and then written (m[k], x = v, y). -/
namespace Go.Sl
section
variable {F : Fence} {P : Program} {S : Nat → Prop} {w0 w : World} {n : Nat} {Q : Exit → Act → World → Prop} {ds : List Deferred} {σ : Env} {η : Heap} {ops : Array Oper} {rest : List Oper} {ty : TypeId} {pos : String} {af : Array Edge}
/-- The entry of a key, by its stamp. -/
def EntOk {α β : Type} [DecidableEq α] (k : α) (m : List (α × β)) (es : Array MapEntry) (born : Nat) : Prop := ∃ i e, es.toList[i]? = some e ∧ e.born = born ∧ fidx k (m.map (·.1)) = some i
theorem modify_same {es : Array MapEntry} {i : Nat} {f : MapEntry → MapEntry} (h : ∀ e, es.toList[i]? = some e → f e = e) : es.modify i f = es := by
  apply Array.ext'
  rw [Array.toList_modify]
  apply List.ext_getElem?
  intro j
  simp only [List.getElem?_modify, Option.map_eq_map]
  by_cases hij : i = j
  · subst hij
    cases he : es.toList[i]? with
    | none => rfl
    | some e => simp [h e he]
  · simp [hij]
theorem MObj.keyAt {α β : Type} [DecidableEq α] {K : α → Value} {V : β → Value} {m : List (α × β)} {es : Array MapEntry} {clock i : Nat} {k : α} (h : MObj K V m es clock) (hf : fidx k (m.map (·.1)) = some i) : ∃ e, es.toList[i]? = some e ∧ e.key = K k := by
  have hki := fidx_lt hf
  rw [List.getElem?_map] at hki
  have := congrArg (fun l : List Value => l[i]?) h.keys
  simp only [List.getElem?_map] at this
  cases hm : m[i]? with
  | none => simp [hm] at hki
  | some p =>
    simp only [hm, Option.map_some, Option.some.injEq] at hki this
    cases hes : es.toList[i]? with
    | none => simp [hes] at this
    | some e => simp only [hes, Option.map_some, Option.some.injEq] at this; exact ⟨e, rfl, by rw [this, hki]⟩
theorem fidx_new {α : Type} [DecidableEq α] {k : α} : ∀ {l : List α}, fidx k l = none → fidx k (l ++ [k]) = some l.length
  | [], _ => by simp [fidx]
  | a :: l, h => by
    simp only [fidx] at h
    simp only [List.cons_append, fidx, List.length_cons]
    by_cases e : k = a
    · simp [e] at h
    · simp only [e, if_false, Option.map_eq_none_iff] at h ⊢
      rw [fidx_new h]; rfl
theorem TL.mapEntry (hF : Open F) (i : Nat) {t kt et : TypeId} [Und P t (.map kt et)] {z : Value} {sz bt : Nat} [Inf P et z sz bt] {α β : Type} [DecidableEq α] {K : α → Value} [MKey P kt K] (V : β → Value) (zv : β) {m : List (α × β)} {es : Array MapEntry} {clock b : Nat} (k : α)
    {x y : Operand} {d : Nat} (hx : ev σ x = some (.map (some b))) (hy : ev σ y = some (K k)) (hz : V zv = z) (hi : η[i]? = some [(b, .map es clock)]) (hm : MObj K V m es clock) (hn : Nat.blt d n = true)
    (h : ∀ m' es' clock' born u, (m' = m ∨ m' = m ++ [(k, zv)]) → (∀ v, mput k v m' = mput k v m) → MObj K V m' es' clock' → EntOk k m' es' born → TL F P S w0 n ops Q rest ds ((d, .tuple #[u, .int .i64 (born : Int)]) :: σ) (η.set i [(b, .map es' clock')])) : TL F P S w0 n ops Q (⟨some d, .mapEntry t x y, ty, pos, af, none⟩ :: rest) ds σ η :=
  TL.val hF (by intro c; simp) hn fun a w hk hh => by
    have hb := hh.inMem (List.mem_of_getElem? hi)
    have h1 := MKey.find (P := P) (kt := kt) (K := K) k es.toList (m.map (·.1)) w (by rw [hm.keys]; simp)
    have hput := hm.put k zv
    have hzr : (zeroValue et).run P w = .ok z w := run_zeroValue w
    cases hf : fidx k (m.map (·.1)) with
    | none =>
      rw [hf] at h1
      have h1' : (Instr.findKey kt (K k) es.toList).run P w = .ok none w := h1
      have hnew := hput.2 hf
      rw [mput_new _ hf] at hnew
      have hfn : fidx k ((m ++ [(k, zv)]).map (·.1)) = some m.length := by
        rw [List.map_append]; have := fidx_new hf; simpa using this
      refine ⟨.tuple #[z, .int .i64 (clock : Int)], _, _, ?_, hh.turnI hi (.map (es.push { key := K k, val := V zv, born := clock }) (clock + 1)), h (m ++ [(k, zv)]) _ _ clock z (.inr rfl) (fun v => ?_) hnew ⟨m.length, { key := K k, val := V zv, born := clock }, ?_, rfl, hfn⟩⟩
      · simp [execOp, hk.ev hx, hk.ev hy, Instr.mapEntry, run_underlying (t := t) (d := .map kt et), run_getMap hb, MKey.chk, h1', run_setB _ hb (.inl ⟨_, _, rfl⟩), hzr, hz, goInt]
      · rw [mput_new _ hf, mput_at v hfn]
        apply List.ext_getElem?
        intro j
        simp only [List.getElem?_modify, Option.map_eq_map]
        by_cases hj : m.length = j
        · subst hj; simp
        · simp only [if_neg hj]
          by_cases hlt : j < m.length
          · simp [List.getElem?_append_left hlt]
          · rw [List.getElem?_eq_none (by simp; omega), List.getElem?_eq_none (by simp; omega)]; rfl
      · have hl : es.toList.length = m.length := by have := congrArg List.length hm.keys; simpa using this
        rw [Array.toList_push, List.getElem?_append_right (by omega), hl]; simp
    | some j =>
      rw [hf] at h1
      obtain ⟨e, he, hek⟩ := hm.keyAt hf
      have he' : es[j]? = some e := by rw [← Array.getElem?_toList]; exact he
      have h1' : (Instr.findKey kt (K k) es.toList).run P w = .ok (some (j, ((es.toList[j]?).map (·.val)).getD undef)) w := h1
      have hst : (Instr.keyThatStays (K k) (K k)).run P w = .ok (K k) w := by simp [Instr.keyThatStays, MKey.same (P := P) (kt := kt) (K := K)]
      have hmod : (es.modify j fun e => { e with key := K k }) = es := modify_same fun e2 h2 => by
        rw [he] at h2; cases h2; rw [← hek]
      refine ⟨.tuple #[e.val, .int .i64 (e.born : Int)], _, _, ?_, hh.turnI hi (.map es clock), h m _ _ e.born e.val (.inl rfl) (fun _ => rfl) hm ⟨j, e, he, rfl, hf⟩⟩
      simp only [execOp, hk.ev hx, hk.ev hy, Instr.mapEntry, Sem.run_bind, run_underlying (t := t) (d := .map kt et), Result.andThen_ok, run_getMap hb, MKey.chk, h1', hek, hst, hmod, run_setB _ hb (.inl ⟨_, _, rfl⟩), Sem.run_pure, he', he, Option.map_some, Option.getD_some, goInt]
theorem findIdx_born {l : List MapEntry} {i : Nat} {e : MapEntry} (hn : (l.map (·.born)).Nodup) (h : l[i]? = some e) : l.findIdx? (fun x => (x.born : Int) == (e.born : Int)) = some i := by
  induction l generalizing i with
  | nil => simp at h
  | cons x l ih =>
    rw [List.findIdx?_cons]
    simp only [List.map_cons, List.nodup_cons] at hn
    cases i with
    | zero => simp at h; subst h; simp
    | succ i =>
      simp only [List.getElem?_cons_succ] at h
      have hne : x.born ≠ e.born := fun he => hn.1 (by rw [he]; exact List.mem_map.2 ⟨e, List.mem_of_getElem? h, rfl⟩)
      have : ((x.born : Int) == (e.born : Int)) = false := by
        rw [beq_eq_false_iff_ne]; exact fun h => hne (Int.ofNat.inj h)
      rw [this, ih hn.2 h]; rfl
theorem TL.entryStore (hF : Open F) (i : Nat) {t : TypeId} {α β : Type} [DecidableEq α] {K : α → Value} (V : β → Value) {m : List (α × β)} {es : Array MapEntry} {clock b born : Nat} (k : α) (v : β)
    {x y z : Operand} (hx : ev σ x = some (.map (some b))) (hy : ev σ y = some (.int .i64 (born : Int))) (hz : ev σ z = some (V v)) (hi : η[i]? = some [(b, .map es clock)]) (hm : MObj K V m es clock) (he : EntOk k m es born)
    (h : ∀ es', MObj K V (mput k v m) es' clock → TL F P S w0 n ops Q rest ds σ (η.set i [(b, .map es' clock)])) : TL F P S w0 n ops Q (⟨none, .entryStore t x y z, ty, pos, af, none⟩ :: rest) ds σ η :=
  TL.act hF (by intro c; simp) fun a w hk hh => by
    have hb := hh.inMem (List.mem_of_getElem? hi)
    obtain ⟨j, e, h1, rfl, hf⟩ := he
    obtain ⟨e', h2, hek⟩ := hm.keyAt hf
    rw [h1] at h2; cases h2
    have hfi : es.findIdx? (fun x => (x.born : Int) == (e.born : Int)) = some j := by
      rw [show es = es.toList.toArray from rfl, List.findIdx?_toArray]; exact findIdx_born hm.born h1
    have hput := (hm.put k v).1 j hf
    have hmod : (es.modify j fun e => { e with key := K k, val := V v }) = es.modify j fun e => { e with val := V v } := by
      apply Array.ext'
      rw [Array.toList_modify, Array.toList_modify]
      apply List.ext_getElem?
      intro q
      simp only [List.getElem?_modify, Option.map_eq_map]
      by_cases hq : j = q
      · subst hq; simp [h1, hek]
      · simp [hq]
    rw [hmod] at hput
    refine ⟨_, _, ?_, hh.turnI hi (.map (es.modify j fun e => { e with val := V v }) clock), h _ hput⟩
    simp only [execOp, hk.ev hx, hk.ev hy, hk.ev hz, Instr.entryStore, Sem.run_bind, run_getMap hb, Result.andThen_ok, asInt, asIntOf, Sem.run_pure, hfi, run_setB _ hb (.inl ⟨_, _, rfl⟩)]
end
section
variable {F : Fence} {P : Program} {S : Nat → Prop} {w0 w : World} {n : Nat} {Q : Exit → Act → World → Prop} {l : List Oper} {ds : List Deferred} {σ : Env} {η : Heap} {m : Nat} {V : VL}
def QBN (F : Fence) (P : Program) (S : Nat → Prop) (w0 : World) (n : Nat) (l : List Oper) (ds : List Deferred) (σ : Env) (Q : Exit → Act → World → Prop) (m : Nat) (V : VL) (h : Nat) (σ' : Env) : Exit → Act → World → Prop
  | .normal, a, w => ∃ η', Kn n ds σ' a ∧ Hp S w0 η' w ∧ DH F P S w0 n l ds σ Q m ((h, undef, 2) :: execV V) η'
  | e, a, w => Q e a w
theorem TL.finN {h : Nat} {σ' : Env} {ops : Array Oper} (hd : DH F P S w0 n l ds σ Q m ((h, undef, 2) :: execV V) η) : TL F P S w0 n ops (QBN F P S w0 n l ds σ Q m V h σ') [] ds σ' η := TL.nil fun _ _ hk hh => ⟨η, hk, hh, hd⟩
theorem InvD.putN {V' : VL} {η' : Heap} {L : Array Bool} {a a' : Act} {w' : World} (hi : InvD S w0 n l ds σ V η L a w) {i : Nat} (hL : L[i]? = some false) (hready : ∀ j, waits l i j = true → L[j]? = some true)
    (hV : ∀ j u, vget V j = some u → vget V' j = some u) (hV' : ∀ j u, j ≠ i → vget V' j = some u → vget V j = some u) (hvi : (vget V' i).isSome = true) (hdi : dstOf l i = none)
    (hdone : ∀ j u, (j, u, 2) ∈ V' → j = i ∨ L[j]? = some true)
    (hs : a'.tmps.size = n) (hds : a'.defers = ds) (ho : ∀ (t : Nat) (u : Value), a.tmps[t]? = some u → a'.tmps[t]? = some u) (hh : Hp S w0 η' w') : InvD S w0 n l ds σ V' η' (L.setIfInBounds i true) a' w' := by
  have hil := (Array.getElem?_eq_some_iff.1 hL).1
  have hset : ∀ k, (L.setIfInBounds i true)[k]? = some true ↔ k = i ∨ L[k]? = some true := by
    intro k
    rw [Array.getElem?_setIfInBounds]
    by_cases e : i = k
    · subst e; simp [hil]
    · rw [if_neg e]
      constructor
      · exact .inr
      · rintro (h | h)
        · exact absurd h.symm e
        · exact h
  refine ⟨by simp [hi.size], ?_, ?_, ?_, hs, hds, ?_, ?_, hh⟩
  · intro k hk
    rcases (hset k).1 hk with e | hk
    · subst e; exact hvi
    · have := hi.dom k hk
      cases hv : vget V k with
      | none => simp [hv] at this
      | some u => rw [hV k u hv]; rfl
  · intro j u hj
    rcases hdone j u hj with e | h
    · exact (hset j).2 (.inl e)
    · exact (hset j).2 (.inr h)
  · intro k j hw hk
    rcases (hset k).1 hk with e | hk
    · subst e; exact (hset j).2 (.inr (hready j hw))
    · exact (hset j).2 (.inr (hi.down k j hw hk))
  · intro t u ht hno
    exact ho t u (hi.old t u ht fun k hk => hno k ((hset k).2 (.inr hk)))
  · intro j u d' hj hv hd'
    rcases (hset j).1 hj with e | hj2
    · subst e; rw [hdi] at hd'; cases hd'
    · have hji : j ≠ i := fun e => by subst e; rw [hL] at hj2; cases hj2
      exact ho d' u (hi.new j u d' hj2 (hV' j u hji hv) hd')
theorem run_oneN {L : Array Bool} {a : Act} {i : Nat} {o : Oper} {env : List (Nat × Value × Option Nat)} {QO : Env → Exit → Act → World → Prop} (hi : InvD S w0 n l ds σ V η L a w) (hL : L[i]? = some false) (hready : ∀ j, waits l i j = true → L[j]? = some true) (ho : l[i]? = some o) (henv : EnvOkV l σ V i env)
    (hop : ∀ ext : Env, TL F P S w0 n l.toArray (QO (envs env ++ ext)) [o] ds (envs env ++ ext) η) :
    wpOpIn F 0 P l.toArray (QO (envs env ++ fullEnv a)) i (fun a' w' => QO (envs env ++ fullEnv a) .normal a' w') a w ∧ (∀ a' : Act, Kn n ds (envs env ++ fullEnv a) a' → ∀ (t : Nat) (u : Value), a.tmps[t]? = some u → a'.tmps[t]? = some u) := by
  have hke : ∀ t v, lk (envs env) t = some v → a.tmps[t]? = some v := hi.env hL hready henv
  have hkn : Kn n ds (envs env ++ fullEnv a) a := ⟨hi.tsize, hi.defers, fun t v htv => by
    rcases lk_append htv with h5 | ⟨_, h5⟩
    · exact hke t v h5
    · exact lk_full a t v h5⟩
  have h6 := hop (fullEnv a) a w hkn hi.hp
  rw [wpListIn_one (i := i) (by simp [ho])] at h6
  refine ⟨wpOpIn_mono (fun a' w' hx => hx) h6, fun a' hk' t u htu => ?_⟩
  refine hk'.slot t u ?_
  have hfull : lk (fullEnv a) t = some u := by
    have := lk_full' a.tmps.toList 0 t u (by simpa using htu)
    simpa [fullEnv] using this
  have happ : ∀ (e1 : Env), (∀ v, lk e1 t = some v → v = u) → lk (e1 ++ fullEnv a) t = some u := by
    intro e1
    induction e1 with
    | nil => intro _; exact hfull
    | cons p r ihr =>
      obtain ⟨s, v⟩ := p
      intro hv
      rw [List.cons_append, lk_cons]
      by_cases hst : s = t
      · rw [if_pos hst, hv v (by rw [lk_cons, if_pos hst])]
      · rw [if_neg hst]; exact ihr fun v' hv' => hv v' (by rw [lk_cons, if_neg hst]; exact hv')
  exact happ _ fun v hv => by
    have := hke t v hv
    rw [htu] at this; cases this; rfl
/-- One heavy operation, without a slot, may come next. -/
theorem DH.heavyN (h : Nat) (env : List (Nat × Value × Option Nat)) {o : Oper} (hd : dagOk l = true) (ht : tailOk l m = true) (hq : dstsOk l m = true) (hcomp : complete l m V [h] = true) (ho : l[h]? = some o) (hod : o.dst = none) (him : Nat.blt h m = true) (hnew : vget V h = none) (henv : EnvOkV l σ V h env) (hrd : readersOk l V h = true)
    (hop : ∀ ext : Env, TL F P S w0 n l.toArray (QBN F P S w0 n l ds σ Q m V h (envs env ++ ext)) [o] ds (envs env ++ ext) η) : DH F P S w0 n l ds σ Q m V η := by
  have hleaf : (∀ i, i < m → (vget V i).isSome = true) → TL F P S w0 n l.toArray Q (l.drop m) ds (allEnvV l V σ) η := fun ha => not_all him hnew ha
  intro hn h0 h1 hk
  have him0 : h < m := Nat.le_of_ble_eq_true him
  have hml : m ≤ l.length := by
    simp only [dstsOk, Bool.and_eq_true] at hq
    exact Nat.le_of_ble_eq_true hq.1
  have hdom : ∀ j, (vget V j).isSome = true → j < m := by
    intro j hj
    cases hv : vget V j with
    | none => simp [hv] at hj
    | some u => obtain ⟨k, hm⟩ := vget_mem hv; exact (hk j u k hm).1
  have last : ∀ (f : Nat) (L : Array Bool) (a : Act) (w : World), L.toList.countP (· == false) = f → InvD S w0 n l ds σ V η L a w → (∀ k, k < m → L[k]? = some true) → wpAnyIn F 0 P .any l.toArray Q f L a w := by
    intro f L a w hc hi hall
    have hsz := hi.size
    have hLq : ∀ k, L[k]? = some true → k < m := fun k hk' => hdom k (hi.dom k hk')
    have hL : ∀ j, j < l.length → L[j]? = some (decide (j < m)) := fun j hj => by
      by_cases h1 : j < m
      · rw [hall j h1]; simp [h1]
      · have hj' : j < L.size := by omega
        have : L[j]? ≠ some true := fun e => h1 (hLq j e)
        simp only [hj', Array.getElem?_eq_getElem] at this ⊢
        cases h4 : L[j] with
        | true => rw [h4] at this; exact absurd rfl this
        | false => simp [h1]
    have hLeq : L.toList = List.replicate m true ++ List.replicate (l.length - m) false := by
      apply List.ext_getElem?
      intro j
      rw [Array.getElem?_toList]
      by_cases hj : j < l.length
      · rw [hL j hj]
        by_cases h1 : j < m
        · rw [List.getElem?_append_left (by simpa using h1)]; simp [h1]
        · rw [List.getElem?_append_right (by simpa using h1)]
          rw [List.getElem?_replicate, List.length_replicate, if_pos (by omega)]
          simp [h1]
      · rw [Array.getElem?_eq_none (by omega), List.getElem?_eq_none (by simp; omega)]
    have hf : m + f = l.length := by
      rw [hLeq] at hc
      simp [List.countP_append, List.countP_replicate] at hc
      omega
    refine any_tail hd ht f m L a w hf (Nat.le_refl _) hsz hL (hleaf (fun i him => hi.dom i (hall i him)) a w ⟨hi.tsize, hi.defers, fun t v htv => ?_⟩ hi.hp)
    have hmem : ∀ t v, (t, v) ∈ (V.filterMap fun x => (dstOf l x.1).map fun d => (d, x.2.1)) → ∃ i, vget V i = some v ∧ dstOf l i = some t := by
      intro t v h
      obtain ⟨⟨i, u, k⟩, h1, h2⟩ := List.mem_filterMap.1 h
      simp only [Option.map_eq_some_iff, Prod.mk.injEq] at h2
      obtain ⟨d, hd, rfl, rfl⟩ := h2
      exact ⟨i, mem_vget hn h1, hd⟩
    rcases lk_append htv with h5 | ⟨h5, h6⟩
    · obtain ⟨i, h3, h4⟩ := hmem t v (lk_mem h5)
      exact hi.new i v t (hall i (hdom i (by rw [h3]; rfl))) h3 h4
    · refine hi.old t v h6 fun k hk1 hk2 => ?_
      have hkv := hi.dom k hk1
      cases hv : vget V k with
      | none => simp [hv] at hkv
      | some u =>
        obtain ⟨kk, hm⟩ := vget_mem hv
        refine lk_none h5 u (List.mem_filterMap.2 ⟨(k, u, kk), hm, by simp [hk2]⟩)
  intro f
  induction f with
  | zero =>
    intro L a w hc hi
    refine last 0 L a w hc hi (fun j hj => ?_)
    have hsz := hi.size
    have hj' : j < L.size := by omega
    rw [List.countP_eq_zero] at hc
    have := hc L[j] (by simp)
    simp at this
    simp [hj', this]
  | succ f ih =>
    intro L a w hc hi
    have hsz := hi.size
    by_cases hall : ∀ k, k < m → L[k]? = some true
    · exact last (f + 1) L a w hc hi hall
    · simp only [Classical.not_forall] at hall
      obtain ⟨j, hj, hjn⟩ := hall
      have hjL : L[j]? = some false := by
        have hj' : j < L.size := by omega
        simp only [hj', Array.getElem?_eq_getElem] at hjn ⊢
        cases h4 : L[j] with
        | true => rw [h4] at hjn; exact absurd rfl hjn
        | false => rfl
      refine ⟨fun he => by
        obtain ⟨i, hi'⟩ := ready_ex hd hsz j hjL
        rw [he] at hi'; simp at hi', fun i hir => ?_⟩
      obtain ⟨hLi, hready⟩ := mem_ready hsz hir
      have hilt := (Array.getElem?_eq_some_iff.1 hLi).1
      have him : i < m := by
        rcases Nat.lt_or_ge i m with h3 | h3
        · exact h3
        · have : L[j]? = some true := by
            simp only [tailOk, List.all_eq_true, List.mem_range, Bool.or_eq_true] at ht
            rcases ht i (by omega) with h4 | h4
            · have : i < m := Nat.le_of_ble_eq_true h4
              omega
            · rcases h4 j (by omega) with h5 | h5
              · exact hready j h5
              · exact waitsT_done hi.down _ i j hready h5
          rw [hjL] at this; cases this
      have hcnt : (L.setIfInBounds i true).toList.countP (· == false) = f := by
        rw [Array.toList_setIfInBounds, List.countP_set (by simpa using hilt)]
        have h7 : L.toList[i]'(by simpa using hilt) = false := by
          have := (Array.getElem?_eq_some_iff.1 hLi).2
          simpa using this
        rw [h7, hc]; simp
      simp only [complete, List.all_eq_true, List.mem_range, Bool.or_eq_true] at hcomp
      rcases hcomp i him with (hv | hv) | hv
      · -- a quiet one
        cases hvi : vget V i with
        | none => simp [hvi] at hv
        | some v =>
          obtain ⟨k, hmem⟩ := vget_mem hvi
          have hqs : QSV F P S w0 n l ds σ V η i v := by
            rcases (hk i v k hmem).2 with e | e | e
            · subst e; exact h0 i v hmem η
            · subst e; exact h1 i v hmem
            · subst e; have := hi.done i v hmem; rw [hLi] at this; cases this
          obtain ⟨o, d, env, ho, hod, henv, hop⟩ := hqs
          have hdi : dstOf l i = some d := by simp [dstOf, ho, hod]
          obtain ⟨hrun, hfr⟩ := run_one (d := d) (QO := fun σ' => Fin S w0 n ds η ((d, v) :: σ')) hi hLi hready ho henv hop
          refine wpOpIn_monoQ (fun a' w' hx => ?_) (fun e a' w' hne hx => by cases e <;> first | exact absurd rfl hne | exact hx.elim) hrun
          obtain ⟨hk', hh'⟩ := (show Kn n ds ((d, v) :: (envs env ++ fullEnv a)) a' ∧ Hp S w0 η w' from hx)
          exact ih _ a' w' hcnt (hi.put hq him hLi hready (fun _ _ h => h) (fun _ _ _ h => h) hvi hdom hdi (fun j u hm => .inr (hi.done j u hm)) hk'.size hk'.defers (hfr v a' hk').1 (hfr v a' hk').2 hh')
      · -- a heavy one
        have hih : i = h := by
          have : Nat.beq i h = true := by simpa using hv
          exact Nat.eq_of_beq_eq_true this
        subst hih
        have hdi : dstOf l i = none := by simp [dstOf, ho, hod]
        obtain ⟨hrun, hfr⟩ := run_oneN (QO := fun σ' => QBN F P S w0 n l ds σ Q m V i σ') hi hLi hready ho henv hop
        refine wpOpIn_monoQ (fun a' w' hx => ?_) (fun e a' w' hne hx => by cases e <;> first | exact absurd rfl hne | exact hx) hrun
        obtain ⟨η', hk', hh', hdh⟩ := (show ∃ η', Kn n ds (envs env ++ fullEnv a) a' ∧ Hp S w0 η' w' ∧ DH F P S w0 n l ds σ Q m ((i, undef, 2) :: execV V) η' from hx)
        have hext : ∀ j u, vget V j = some u → vget ((i, undef, 2) :: execV V) j = some u := by
          intro j u hj
          rw [vget_cons, vget_exec]
          by_cases e : i = j
          · subst e; rw [hnew] at hj; cases hj
          · rw [if_neg e]; exact hj
        have hex : ∀ j u k, (j, u, k) ∈ execV V → ∃ k0, (j, u, k0) ∈ V ∧ ((k0 = 1 ∧ k = 2) ∨ (k0 ≠ 1 ∧ k = k0)) := by
          intro j u k hm
          obtain ⟨⟨j0, u0, k0⟩, hx0, he⟩ := List.mem_map.1 hm
          simp only [Prod.mk.injEq] at he
          obtain ⟨rfl, rfl, hke⟩ := he
          refine ⟨k0, hx0, ?_⟩
          by_cases e : k0 = 1
          · subst e; left; exact ⟨rfl, hke.symm⟩
          · right
            have : Nat.beq k0 1 = false := by
              cases hb : Nat.beq k0 1
              · rfl
              · exact absurd (Nat.eq_of_beq_eq_true hb) e
            rw [this] at hke; exact ⟨e, hke.symm⟩
        have hmapf : (execV V).map (·.1) = V.map (·.1) := by simp [execV, Function.comp_def]
        refine hdh ?_ ?_ ?_ ?_ f _ a' w' hcnt (hi.putN hLi hready hext ?_ (by rw [vget_cons, if_pos rfl]; rfl) hdi ?_ hk'.size hk'.defers (hfr a' hk') hh')
        · rw [List.map_cons, hmapf]
          refine List.nodup_cons.2 ⟨fun hm => ?_, hn⟩
          obtain ⟨⟨j0, u0, k0⟩, hx0, he⟩ := List.mem_map.1 hm
          simp only at he; subst he
          have := mem_vget hn hx0
          rw [hnew] at this; cases this
        · intro j u hm η2
          rcases List.mem_cons.1 hm with e | hm
          · cases e
          · obtain ⟨k0, hx0, h2 | h2⟩ := hex j u 0 hm
            · exact absurd h2.2 (by decide)
            · rw [← h2.2] at hx0; exact (h0 j u hx0 η2).ext hext
        · intro j u hm
          rcases List.mem_cons.1 hm with e | hm
          · cases e
          · obtain ⟨k0, hx0, h2 | h2⟩ := hex j u 1 hm
            · exact absurd h2.2 (by decide)
            · exact absurd h2.2.symm h2.1
        · intro j u k hm
          rcases List.mem_cons.1 hm with e | hm
          · cases e; exact ⟨him0, .inr (.inr rfl)⟩
          · obtain ⟨k0, hx0, h2 | h2⟩ := hex j u k hm
            · exact ⟨(hk j u k0 hx0).1, .inr (.inr h2.2)⟩
            · rw [h2.2]; exact hk j u k0 hx0
        · intro j u hji hv2
          rw [vget_cons, if_neg (fun e => hji e.symm), vget_exec] at hv2; exact hv2
        · intro j u hm
          rcases List.mem_cons.1 hm with e | hm
          · cases e; exact .inl rfl
          · obtain ⟨k0, hx0, h2 | h2⟩ := hex j u 2 hm
            · right
              simp only [readersOk, List.all_eq_true] at hrd
              have h3 := hrd (j, u, k0) hx0
              simp only [h2.1, Bool.or_eq_true, Bool.not_eq_true'] at h3
              rcases h3 with h3 | h3 | h3
              · simp at h3
              · exact hready j h3
              · exact waitsT_done hi.down _ i j hready h3
            · right; rw [← h2.2] at hx0; exact hi.done j u hx0
      · -- it waits for what is not known
        exfalso
        simp only [List.any_eq_true, List.mem_range, Bool.and_eq_true, Bool.or_eq_true] at hv
        obtain ⟨j2, hj2, hnone, hw⟩ := hv
        have hLj : L[j2]? = some true := by
          rcases hw with h5 | h5
          · exact hready j2 h5
          · exact waitsT_done hi.down _ i j2 hready h5
        have := hi.dom j2 hLj
        cases hvv : vget V j2 with
        | none => simp [hvv] at this
        | some u => simp [hvv] at hnone
end
end Go.Sl
/- Words of 32 bits: the low bits of a number; remainders; truths that differ. -/
namespace Go.Sl
section
variable {F : Fence} {P : Program} {S : Nat → Prop} {w0 w : World} {n : Nat} {Q : Exit → Act → World → Prop} {ds : List Deferred} {σ : Env} {η : Heap} {ops : Array Oper} {rest : List Oper} {ty : TypeId} {pos : String} {af : Array Edge} {d : Nat}
theorem and_low (a : Int) : IntKind.i64.wrap ((BitVec.ofInt 64 a &&& BitVec.ofInt 64 4294967295).toNat : Int) = a % 4294967296 := by
  have h1 : (BitVec.ofInt 64 (4294967295 : Int)) = BitVec.ofNat 64 (2 ^ 32 - 1) := by decide
  have h2 : (BitVec.ofInt 64 a &&& BitVec.ofInt 64 4294967295).toNat = (BitVec.ofInt 64 a).toNat % 2 ^ 32 := by
    rw [h1, BitVec.toNat_and, BitVec.toNat_ofNat, Nat.mod_eq_of_lt (by decide : 2 ^ 32 - 1 < 2 ^ 64), Nat.and_two_pow_sub_one_eq_mod]
  rw [h2, BitVec.toNat_ofInt, wrap_i64 (by omega) (by omega)]
  omega
theorem TL.andLow (hF : Open F) {xt yt : TypeId} {x y : Operand} {a : Int} (hx : ev σ x = some (.int .i64 a)) (hy : ev σ y = some (.int .i64 4294967295)) (hn : Nat.blt d n = true)
    (h : TL F P S w0 n ops Q rest ds ((d, .int .i64 (a % 4294967296)) :: σ) η) : TL F P S w0 n ops Q (⟨some d, .binOp .and xt x y yt, ty, pos, af, none⟩ :: rest) ds σ η :=
  TL.pure hF (by intro c; simp) hn (fun b w hk _ => by
    have hb : (Op.intBits .and .i64 a 4294967295).run P w = .ok (.int .i64 (a % 4294967296)) w := by
      have := and_low a
      unfold Op.intBits
      simp only [Sem.run_pure]
      congr 2
    simp [execOp, hk.ev hx, hk.ev hy, eqGuard, binOp, hb]) h
theorem TL.remI (hF : Open F) {xt yt : TypeId} {x y : Operand} {k : IntKind} {a b : Int} (hx : ev σ x = some (.int k a)) (hy : ev σ y = some (.int k b)) (hb : b ≠ 0) (hn : Nat.blt d n = true)
    (h : TL F P S w0 n ops Q rest ds ((d, .int k (Int.tmod a b)) :: σ) η) : TL F P S w0 n ops Q (⟨some d, .binOp .rem xt x y yt, ty, pos, af, none⟩ :: rest) ds σ η :=
  TL.pure hF (by intro c; simp) hn (fun c w hk _ => by
    have hb' : (Op.intDiv .rem k a b).run P w = .ok (.int k (Int.tmod a b)) w := by
      unfold Op.intDiv
      rw [if_neg hb]
      simp only [Sem.run_pure]
    simp [execOp, hk.ev hx, hk.ev hy, eqGuard, binOp, hb']) h
theorem TL.neqB (hF : Open F) {xt yt : TypeId} [hu : Und P xt .bool] {x y : Operand} {a b : Bool} (hx : ev σ x = some (.bool a)) (hy : ev σ y = some (.bool b)) (hn : Nat.blt d n = true)
    (h : TL F P S w0 n ops Q rest ds ((d, .bool (a != b)) :: σ) η) : TL F P S w0 n ops Q (⟨some d, .binOp .neq xt x y yt, ty, pos, af, none⟩ :: rest) ds σ η :=
  TL.pure hF (by intro c; simp) hn (fun c w hk _ => by
    have he : (Op.equalIn Op.maxDepth xt (.bool a) (.bool b)).run P w = .ok (a == b) w := run_equalIn_bool' w 9999 xt a b hu.eq
    simp [execOp, hk.ev hx, hk.ev hy, eqGuard, binOp, Op.equal, he, bne]) h
theorem TL.eqlB (hF : Open F) {xt yt : TypeId} [hu : Und P xt .bool] {x y : Operand} {a b : Bool} (hx : ev σ x = some (.bool a)) (hy : ev σ y = some (.bool b)) (hn : Nat.blt d n = true)
    (h : TL F P S w0 n ops Q rest ds ((d, .bool (a == b)) :: σ) η) : TL F P S w0 n ops Q (⟨some d, .binOp .eql xt x y yt, ty, pos, af, none⟩ :: rest) ds σ η :=
  TL.pure hF (by intro c; simp) hn (fun c w hk _ => by
    have he : (Op.equalIn Op.maxDepth xt (.bool a) (.bool b)).run P w = .ok (a == b) w := run_equalIn_bool' w 9999 xt a b hu.eq
    simp [execOp, hk.ev hx, hk.ev hy, eqGuard, binOp, Op.equal, he]) h
/-- Structs of scalars are the same if all fields are. -/
def AllF (P : Program) (w : World) (e : Nat) (xs ys : Array Value) : List Field → List (Value × Value × Bool) → Prop
  | [], [] => True
  | f :: fs, p :: ps => (f.name ≠ "_" ∧ (part f.type xs f.offset).run P w = .ok p.1 w ∧ (part f.type ys f.offset).run P w = .ok p.2.1 w ∧ (Op.equalIn e f.type p.1 p.2.1).run P w = .ok p.2.2 w) ∧ AllF P w e xs ys fs ps
  | _, _ => False
theorem run_eqFields_all {e : Nat} {xs ys : Array Value} : ∀ (fs : List Field) (ps : List (Value × Value × Bool)), AllF P w e xs ys fs ps → (Op.eqFields e xs ys fs).run P w = .ok (ps.all (·.2.2)) w
  | [], [], _ => rfl
  | [], _ :: _, h => h.elim
  | _ :: _, [], h => h.elim
  | f :: fs, p :: ps, h => by
    obtain ⟨⟨h1, h2, h3, h4⟩, hr⟩ := h
    have ih := run_eqFields_all fs ps hr
    simp only [Op.eqFields, ne_eq, h1, not_false_eq_true, if_true, Sem.run_bind, h2, h3, h4, Result.andThen_ok, List.all_cons]
    cases p.2.2 with
    | true => simpa using ih
    | false => rfl
theorem TL.neqA (hF : Open F) {xt yt : TypeId} {x y : Operand} {xa xb : Array Value} {r : Bool} (hx : ev σ x = some (.agg xa)) (hy : ev σ y = some (.agg xb)) (hg : P.eqGuardType P.depth xt = false) (hr : ∀ w, (Op.equal xt (.agg xa) (.agg xb)).run P w = .ok r w) (hn : Nat.blt d n = true)
    (h : TL F P S w0 n ops Q rest ds ((d, .bool (!r)) :: σ) η) : TL F P S w0 n ops Q (⟨some d, .binOp .neq xt x y yt, ty, pos, af, none⟩ :: rest) ds σ η :=
  TL.pure hF (by intro c; simp) hn (fun c w hk _ => by
    have := hr w
    simp [execOp, hk.ev hx, hk.ev hy, eqGuard, binOp, this, hg]) h
theorem TL.eqlA (hF : Open F) {xt yt : TypeId} {x y : Operand} {xa xb : Array Value} {r : Bool} (hx : ev σ x = some (.agg xa)) (hy : ev σ y = some (.agg xb)) (hg : P.eqGuardType P.depth xt = false) (hr : ∀ w, (Op.equal xt (.agg xa) (.agg xb)).run P w = .ok r w) (hn : Nat.blt d n = true)
    (h : TL F P S w0 n ops Q rest ds ((d, .bool r) :: σ) η) : TL F P S w0 n ops Q (⟨some d, .binOp .eql xt x y yt, ty, pos, af, none⟩ :: rest) ds σ η :=
  TL.pure hF (by intro c; simp) hn (fun c w hk _ => by
    have := hr w
    simp [execOp, hk.ev hx, hk.ev hy, eqGuard, binOp, this, hg]) h
end
end Go.Sl
/- Regions that draw their order: heavy operations behind which some reads are still to come; with or without a slot. What is frozen, thawed. -/
namespace Go.Sl
section
variable {F : Fence} {P : Program} {S S' : Nat → Prop} {w0 w w1 : World} {n : Nat} {Q : Exit → Act → World → Prop} {l : List Oper} {ds : List Deferred} {σ : Env} {η ηr : Heap} {m : Nat} {V : VL}
theorem T.thaw {c : Code} (hz : Frz S S' w0 w1 ηr) (h : T F P S w0 n Q c ds σ (ηr ++ η)) : T F P S' w1 n Q c ds σ η := fun a w hk hh => h a w hk (hz.back _ _ hh)
theorem TL.thaw {ops : Array Oper} {c : List Oper} (hz : Frz S S' w0 w1 ηr) (h : TL F P S w0 n ops Q c ds σ (ηr ++ η)) : TL F P S' w1 n ops Q c ds σ η := fun a w hk hh => h a w hk (hz.back _ _ hh)
theorem TQ.thaw {K : Act → World → Prop} (hz : Frz S S' w0 w1 ηr) (h : TQ S w0 n K ds σ (ηr ++ η)) : TQ S' w1 n K ds σ η := fun a w hk hh => h a w hk (hz.back _ _ hh)
def inL (k : Nat) (ks : List Nat) : Bool := ks.any (Nat.beq k)
theorem inL_iff {k : Nat} {ks : List Nat} : inL k ks = true ↔ k ∈ ks := by
  unfold inL
  rw [List.any_eq_true]
  constructor
  · rintro ⟨x, hx, he⟩; rw [Nat.eq_of_beq_eq_true he]; exact hx
  · exact fun h => ⟨k, h, by simp⟩
/-- Reads that are still to come stay; the others are carried out. -/
def keepV (ks : List Nat) (V : VL) : VL := V.map fun x => (x.1, x.2.1, bif Nat.beq x.2.2 1 then (bif inL x.1 ks then 1 else 2) else x.2.2)
theorem vget_keep (ks : List Nat) : ∀ (V : VL) (j : Nat), vget (keepV ks V) j = vget V j
  | [], _ => rfl
  | (i, v, k) :: r, j => by
    have := vget_keep ks r j
    show vget ((i, v, _) :: keepV ks r) j = _
    rw [vget_cons, vget_cons, this]
def readersOkK (l : List Oper) (V : VL) (h : Nat) (ks : List Nat) : Bool := V.all fun x => !Nat.beq x.2.2 1 || inL x.1 ks || (waits l h x.1 || waitsT l l.length h x.1)
/-- What is asked of the reads that stay. -/
def KeepQ (F : Fence) (P : Program) (S : Nat → Prop) (w0 : World) (n : Nat) (l : List Oper) (ds : List Deferred) (σ : Env) (V : VL) (η : Heap) : List Nat → Prop
  | [] => True
  | k :: r => (∃ u, vget V k = some u ∧ QSV F P S w0 n l ds σ V η k u) ∧ KeepQ F P S w0 n l ds σ V η r
theorem KeepQ.get : ∀ {ks : List Nat}, KeepQ F P S w0 n l ds σ V η ks → ∀ k ∈ ks, ∀ u, vget V k = some u → QSV F P S w0 n l ds σ V η k u
  | [], _, k, h, _, _ => by simp at h
  | k0 :: r, h, k, hk, u, hu => by
    rcases List.mem_cons.1 hk with e | hk
    · subst e
      obtain ⟨u', h1, h2⟩ := h.1
      rw [hu] at h1; cases h1; exact h2
    · exact KeepQ.get h.2 k hk u hu
def putO : Option Nat → Value → Env → Env
  | some d, v, σ => (d, v) :: σ
  | none, _, σ => σ
def QBK (F : Fence) (P : Program) (S : Nat → Prop) (w0 : World) (n : Nat) (l : List Oper) (ds : List Deferred) (σ : Env) (Q : Exit → Act → World → Prop) (m : Nat) (V : VL) (h : Nat) (od : Option Nat) (ks : List Nat) (σ' : Env) : Exit → Act → World → Prop
  | .normal, a, w => ∃ v η', Kn n ds (putO od v σ') a ∧ Hp S w0 η' w ∧ KeepQ F P S w0 n l ds σ V η' ks ∧ DH F P S w0 n l ds σ Q m ((h, v, 2) :: keepV ks V) η'
  | e, a, w => Q e a w
theorem TL.finK {h d : Nat} {σ' : Env} {v : Value} {ops : Array Oper} {ks : List Nat} (hq : KeepQ F P S w0 n l ds σ V η ks) (hd : DH F P S w0 n l ds σ Q m ((h, v, 2) :: keepV ks V) η) : TL F P S w0 n ops (QBK F P S w0 n l ds σ Q m V h (some d) ks σ') [] ds ((d, v) :: σ') η := TL.nil fun _ _ hk hh => ⟨v, η, hk, hh, hq, hd⟩
theorem TL.finKN {h : Nat} {σ' : Env} {ops : Array Oper} {ks : List Nat} (hq : KeepQ F P S w0 n l ds σ V η ks) (hd : DH F P S w0 n l ds σ Q m ((h, undef, 2) :: keepV ks V) η) : TL F P S w0 n ops (QBK F P S w0 n l ds σ Q m V h none ks σ') [] ds σ' η := TL.nil fun _ _ hk hh => ⟨undef, η, hk, hh, hq, hd⟩
/-- A heavy operation that may come next. -/
def HBK (F : Fence) (P : Program) (S : Nat → Prop) (w0 : World) (n : Nat) (l : List Oper) (ds : List Deferred) (σ : Env) (Q : Exit → Act → World → Prop) (m : Nat) (V : VL) (η : Heap) (h : Nat) : Prop :=
  ∃ ks o env, l[h]? = some o ∧ Nat.blt h m = true ∧ vget V h = none ∧ EnvOkV l σ V h env ∧ readersOkK l V h ks = true ∧ ∀ ext : Env, TL F P S w0 n l.toArray (QBK F P S w0 n l ds σ Q m V h o.dst ks (envs env ++ ext)) [o] ds (envs env ++ ext) η
theorem HBK.mk {h : Nat} (ks : List Nat) (env : List (Nat × Value × Option Nat)) {o : Oper} (ho : l[h]? = some o) (him : Nat.blt h m = true) (hnew : vget V h = none) (he : EnvOkV l σ V h env) (hrd : readersOkK l V h ks = true)
    (hop : ∀ ext : Env, TL F P S w0 n l.toArray (QBK F P S w0 n l ds σ Q m V h o.dst ks (envs env ++ ext)) [o] ds (envs env ++ ext) η) : HBK F P S w0 n l ds σ Q m V η h := ⟨ks, o, env, ho, him, hnew, he, hrd, hop⟩
/-- A node: the heavy operations that may come next. -/
theorem DH.nodeK (hs : List Nat) (hd : dagOk l = true) (ht : tailOk l m = true) (hq : dstsOk l m = true) (hcomp : complete l m V hs = true) (hbr : ∀ h ∈ hs, HBK F P S w0 n l ds σ Q m V η h) (hne : hs ≠ []) : DH F P S w0 n l ds σ Q m V η := by
  have hleaf : (∀ i, i < m → (vget V i).isSome = true) → TL F P S w0 n l.toArray Q (l.drop m) ds (allEnvV l V σ) η := fun ha => by
    cases hs with
    | nil => exact absurd rfl hne
    | cons h r =>
      obtain ⟨_, _, _, _, him, hnew, _⟩ := hbr h List.mem_cons_self
      exact not_all him hnew ha
  intro hn h0 h1 hk
  have hml : m ≤ l.length := by
    simp only [dstsOk, Bool.and_eq_true] at hq
    exact Nat.le_of_ble_eq_true hq.1
  have hdom : ∀ j, (vget V j).isSome = true → j < m := by
    intro j hj
    cases hv : vget V j with
    | none => simp [hv] at hj
    | some u => obtain ⟨k, hm⟩ := vget_mem hv; exact (hk j u k hm).1
  have last : ∀ (f : Nat) (L : Array Bool) (a : Act) (w : World), L.toList.countP (· == false) = f → InvD S w0 n l ds σ V η L a w → (∀ k, k < m → L[k]? = some true) → wpAnyIn F 0 P .any l.toArray Q f L a w := by
    intro f L a w hc hi hall
    have hsz := hi.size
    have hLq : ∀ k, L[k]? = some true → k < m := fun k hk' => hdom k (hi.dom k hk')
    have hL : ∀ j, j < l.length → L[j]? = some (decide (j < m)) := fun j hj => by
      by_cases h1 : j < m
      · rw [hall j h1]; simp [h1]
      · have hj' : j < L.size := by omega
        have : L[j]? ≠ some true := fun e => h1 (hLq j e)
        simp only [hj', Array.getElem?_eq_getElem] at this ⊢
        cases h4 : L[j] with
        | true => rw [h4] at this; exact absurd rfl this
        | false => simp [h1]
    have hLeq : L.toList = List.replicate m true ++ List.replicate (l.length - m) false := by
      apply List.ext_getElem?
      intro j
      rw [Array.getElem?_toList]
      by_cases hj : j < l.length
      · rw [hL j hj]
        by_cases h1 : j < m
        · rw [List.getElem?_append_left (by simpa using h1)]; simp [h1]
        · rw [List.getElem?_append_right (by simpa using h1)]
          rw [List.getElem?_replicate, List.length_replicate, if_pos (by omega)]
          simp [h1]
      · rw [Array.getElem?_eq_none (by omega), List.getElem?_eq_none (by simp; omega)]
    have hf : m + f = l.length := by
      rw [hLeq] at hc
      simp [List.countP_append, List.countP_replicate] at hc
      omega
    refine any_tail hd ht f m L a w hf (Nat.le_refl _) hsz hL (hleaf (fun i him => hi.dom i (hall i him)) a w ⟨hi.tsize, hi.defers, fun t v htv => ?_⟩ hi.hp)
    have hmem : ∀ t v, (t, v) ∈ (V.filterMap fun x => (dstOf l x.1).map fun d => (d, x.2.1)) → ∃ i, vget V i = some v ∧ dstOf l i = some t := by
      intro t v h
      obtain ⟨⟨i, u, k⟩, h1, h2⟩ := List.mem_filterMap.1 h
      simp only [Option.map_eq_some_iff, Prod.mk.injEq] at h2
      obtain ⟨d, hd, rfl, rfl⟩ := h2
      exact ⟨i, mem_vget hn h1, hd⟩
    rcases lk_append htv with h5 | ⟨h5, h6⟩
    · obtain ⟨i, h3, h4⟩ := hmem t v (lk_mem h5)
      exact hi.new i v t (hall i (hdom i (by rw [h3]; rfl))) h3 h4
    · refine hi.old t v h6 fun k hk1 hk2 => ?_
      have hkv := hi.dom k hk1
      cases hv : vget V k with
      | none => simp [hv] at hkv
      | some u =>
        obtain ⟨kk, hm⟩ := vget_mem hv
        refine lk_none h5 u (List.mem_filterMap.2 ⟨(k, u, kk), hm, by simp [hk2]⟩)
  intro f
  induction f with
  | zero =>
    intro L a w hc hi
    refine last 0 L a w hc hi (fun j hj => ?_)
    have hsz := hi.size
    have hj' : j < L.size := by omega
    rw [List.countP_eq_zero] at hc
    have := hc L[j] (by simp)
    simp at this
    simp [hj', this]
  | succ f ih =>
    intro L a w hc hi
    have hsz := hi.size
    by_cases hall : ∀ k, k < m → L[k]? = some true
    · exact last (f + 1) L a w hc hi hall
    · simp only [Classical.not_forall] at hall
      obtain ⟨j, hj, hjn⟩ := hall
      have hjL : L[j]? = some false := by
        have hj' : j < L.size := by omega
        simp only [hj', Array.getElem?_eq_getElem] at hjn ⊢
        cases h4 : L[j] with
        | true => rw [h4] at hjn; exact absurd rfl hjn
        | false => rfl
      refine ⟨fun he => by
        obtain ⟨i, hi'⟩ := ready_ex hd hsz j hjL
        rw [he] at hi'; simp at hi', fun i hir => ?_⟩
      obtain ⟨hLi, hready⟩ := mem_ready hsz hir
      have hilt := (Array.getElem?_eq_some_iff.1 hLi).1
      have him : i < m := by
        rcases Nat.lt_or_ge i m with h3 | h3
        · exact h3
        · have : L[j]? = some true := by
            simp only [tailOk, List.all_eq_true, List.mem_range, Bool.or_eq_true] at ht
            rcases ht i (by omega) with h4 | h4
            · have : i < m := Nat.le_of_ble_eq_true h4
              omega
            · rcases h4 j (by omega) with h5 | h5
              · exact hready j h5
              · exact waitsT_done hi.down _ i j hready h5
          rw [hjL] at this; cases this
      have hcnt : (L.setIfInBounds i true).toList.countP (· == false) = f := by
        rw [Array.toList_setIfInBounds, List.countP_set (by simpa using hilt)]
        have h7 : L.toList[i]'(by simpa using hilt) = false := by
          have := (Array.getElem?_eq_some_iff.1 hLi).2
          simpa using this
        rw [h7, hc]; simp
      simp only [complete, List.all_eq_true, List.mem_range, Bool.or_eq_true] at hcomp
      rcases hcomp i him with (hv | hv) | hv
      · -- a quiet one
        cases hvi : vget V i with
        | none => simp [hvi] at hv
        | some v =>
          obtain ⟨k, hmem⟩ := vget_mem hvi
          have hqs : QSV F P S w0 n l ds σ V η i v := by
            rcases (hk i v k hmem).2 with e | e | e
            · subst e; exact h0 i v hmem η
            · subst e; exact h1 i v hmem
            · subst e; have := hi.done i v hmem; rw [hLi] at this; cases this
          obtain ⟨o, d, env, ho, hod, henv, hop⟩ := hqs
          have hdi : dstOf l i = some d := by simp [dstOf, ho, hod]
          obtain ⟨hrun, hfr⟩ := run_one (d := d) (QO := fun σ' => Fin S w0 n ds η ((d, v) :: σ')) hi hLi hready ho henv hop
          refine wpOpIn_monoQ (fun a' w' hx => ?_) (fun e a' w' hne hx => by cases e <;> first | exact absurd rfl hne | exact hx.elim) hrun
          obtain ⟨hk', hh'⟩ := (show Kn n ds ((d, v) :: (envs env ++ fullEnv a)) a' ∧ Hp S w0 η w' from hx)
          exact ih _ a' w' hcnt (hi.put hq him hLi hready (fun _ _ h => h) (fun _ _ _ h => h) hvi hdom hdi (fun j u hm => .inr (hi.done j u hm)) hk'.size hk'.defers (hfr v a' hk').1 (hfr v a' hk').2 hh')
      · -- a heavy one
        have hih : i ∈ hs := by
          obtain ⟨x, hx, he⟩ := List.any_eq_true.1 hv
          have : i = x := Nat.eq_of_beq_eq_true he
          rw [this]; exact hx
        obtain ⟨ks, o, env, ho, _, hnew, henv, hrd, hop⟩ := hbr i hih
        have hext : ∀ (v : Value) j u, vget V j = some u → vget ((i, v, 2) :: keepV ks V) j = some u := by
          intro v j u hj
          rw [vget_cons, vget_keep]
          by_cases e : i = j
          · subst e; rw [hnew] at hj; cases hj
          · rw [if_neg e]; exact hj
        have hex : ∀ j u k, (j, u, k) ∈ keepV ks V → ∃ k0, (j, u, k0) ∈ V ∧ ((k0 = 1 ∧ j ∈ ks ∧ k = 1) ∨ (k0 = 1 ∧ j ∉ ks ∧ k = 2) ∨ (k0 ≠ 1 ∧ k = k0)) := by
          intro j u k hm
          obtain ⟨⟨j0, u0, k0⟩, hx0, he⟩ := List.mem_map.1 hm
          simp only [Prod.mk.injEq] at he
          obtain ⟨rfl, rfl, hke⟩ := he
          refine ⟨k0, hx0, ?_⟩
          by_cases e : k0 = 1
          · subst e
            rw [show Nat.beq 1 1 = true from rfl, cond_true] at hke
            cases hin : inL j0 ks with
            | true => rw [hin] at hke; left; exact ⟨rfl, inL_iff.1 hin, hke.symm⟩
            | false =>
              rw [hin] at hke; right; left
              exact ⟨rfl, (fun h => by rw [inL_iff.2 h] at hin; cases hin), hke.symm⟩
          · right; right
            have : Nat.beq k0 1 = false := by
              cases hb : Nat.beq k0 1
              · rfl
              · exact absurd (Nat.eq_of_beq_eq_true hb) e
            rw [this] at hke; exact ⟨e, hke.symm⟩
        have hmapf : (keepV ks V).map (·.1) = V.map (·.1) := by simp [keepV, Function.comp_def]
        have fin : ∀ (v : Value) (η' : Heap) (a' : Act) (w' : World), KeepQ F P S w0 n l ds σ V η' ks → DH F P S w0 n l ds σ Q m ((i, v, 2) :: keepV ks V) η' → InvD S w0 n l ds σ ((i, v, 2) :: keepV ks V) η' (L.setIfInBounds i true) a' w' → wpAnyIn F 0 P .any l.toArray Q f (L.setIfInBounds i true) a' w' := by
          intro v η' a' w' hkq hdh hinv
          refine hdh ?_ ?_ ?_ ?_ f _ a' w' hcnt hinv
          · rw [List.map_cons, hmapf]
            refine List.nodup_cons.2 ⟨fun hm => ?_, hn⟩
            obtain ⟨⟨j0, u0, k0⟩, hx0, he⟩ := List.mem_map.1 hm
            simp only at he; subst he
            have := mem_vget hn hx0
            rw [hnew] at this; cases this
          · intro j u hm η2
            rcases List.mem_cons.1 hm with e | hm
            · cases e
            · obtain ⟨k0, hx0, h2 | h2 | h2⟩ := hex j u 0 hm
              · exact absurd h2.2.2 (by decide)
              · exact absurd h2.2.2 (by decide)
              · rw [← h2.2] at hx0; exact (h0 j u hx0 η2).ext (hext v)
          · intro j u hm
            rcases List.mem_cons.1 hm with e | hm
            · cases e
            · obtain ⟨k0, hx0, h2 | h2 | h2⟩ := hex j u 1 hm
              · exact (hkq.get j h2.2.1 u (mem_vget hn hx0)).ext (hext v)
              · exact absurd h2.2.2 (by decide)
              · exact absurd h2.2.symm h2.1
          · intro j u k hm
            rcases List.mem_cons.1 hm with e | hm
            · cases e; exact ⟨him, .inr (.inr rfl)⟩
            · obtain ⟨k0, hx0, h2 | h2 | h2⟩ := hex j u k hm
              · exact ⟨(hk j u k0 hx0).1, .inr (.inl h2.2.2)⟩
              · exact ⟨(hk j u k0 hx0).1, .inr (.inr h2.2.2)⟩
              · rw [h2.2]; exact hk j u k0 hx0
        have hV' : ∀ (v : Value) j u, j ≠ i → vget ((i, v, 2) :: keepV ks V) j = some u → vget V j = some u := by
          intro v j u hji hv2
          rw [vget_cons, if_neg (fun e => hji e.symm), vget_keep] at hv2; exact hv2
        have hdn : ∀ (v : Value) j u, (j, u, 2) ∈ (i, v, 2) :: keepV ks V → j = i ∨ L[j]? = some true := by
          intro v j u hm
          rcases List.mem_cons.1 hm with e | hm
          · cases e; exact .inl rfl
          · obtain ⟨k0, hx0, h2 | h2 | h2⟩ := hex j u 2 hm
            · exact absurd h2.2.2 (by decide)
            · right
              simp only [readersOkK, List.all_eq_true] at hrd
              have h3 := hrd (j, u, k0) hx0
              simp only [h2.1, Bool.or_eq_true, Bool.not_eq_true', inL_iff] at h3
              rcases h3 with (h3 | h3) | h3 | h3
              · simp at h3
              · exact absurd h3 h2.2.1
              · exact hready j h3
              · exact waitsT_done hi.down _ i j hready h3
            · right; rw [← h2.2] at hx0; exact hi.done j u hx0
        cases hod : o.dst with
        | some d =>
          rw [hod] at hop
          have hdi : dstOf l i = some d := by simp [dstOf, ho, hod]
          obtain ⟨hrun, hfr⟩ := run_one (d := d) (QO := fun σ' => QBK F P S w0 n l ds σ Q m V i (some d) ks σ') hi hLi hready ho henv hop
          refine wpOpIn_monoQ (fun a' w' hx => ?_) (fun e a' w' hne hx => by cases e <;> first | exact absurd rfl hne | exact hx) hrun
          obtain ⟨v, η', hk', hh', hkq, hdh⟩ := (show ∃ v η', Kn n ds ((d, v) :: (envs env ++ fullEnv a)) a' ∧ Hp S w0 η' w' ∧ KeepQ F P S w0 n l ds σ V η' ks ∧ DH F P S w0 n l ds σ Q m ((i, v, 2) :: keepV ks V) η' from hx)
          exact fin v η' a' w' hkq hdh (hi.put hq him hLi hready (hext v) (hV' v) (by rw [vget_cons, if_pos rfl]) hdom hdi (hdn v) hk'.size hk'.defers (hfr v a' hk').1 (hfr v a' hk').2 hh')
        | none =>
          rw [hod] at hop
          have hdi : dstOf l i = none := by simp [dstOf, ho, hod]
          obtain ⟨hrun, hfr⟩ := run_oneN (QO := fun σ' => QBK F P S w0 n l ds σ Q m V i none ks σ') hi hLi hready ho henv hop
          refine wpOpIn_monoQ (fun a' w' hx => ?_) (fun e a' w' hne hx => by cases e <;> first | exact absurd rfl hne | exact hx) hrun
          obtain ⟨v, η', hk', hh', hkq, hdh⟩ := (show ∃ v η', Kn n ds (envs env ++ fullEnv a) a' ∧ Hp S w0 η' w' ∧ KeepQ F P S w0 n l ds σ V η' ks ∧ DH F P S w0 n l ds σ Q m ((i, v, 2) :: keepV ks V) η' from hx)
          exact fin v η' a' w' hkq hdh (hi.putN hLi hready (hext v) (hV' v) (by rw [vget_cons, if_pos rfl]; rfl) hdi (hdn v) hk'.size hk'.defers (hfr a' hk') hh')
      · -- it waits for what is not known
        exfalso
        simp only [List.any_eq_true, List.mem_range, Bool.and_eq_true, Bool.or_eq_true] at hv
        obtain ⟨j2, hj2, hnone, hw⟩ := hv
        have hLj : L[j2]? = some true := by
          rcases hw with h5 | h5
          · exact hready j2 h5
          · exact waitsT_done hi.down _ i j2 hready h5
        have := hi.dom j2 hLj
        cases hvv : vget V j2 with
        | none => simp [hvv] at this
        | some u => simp [hvv] at hnone
theorem DH.k1 {h1 : Nat} (hd : dagOk l = true) (ht : tailOk l m = true) (hq : dstsOk l m = true) (hcomp : complete l m V [h1] = true) (b1 : HBK F P S w0 n l ds σ Q m V η h1) : DH F P S w0 n l ds σ Q m V η :=
  DH.nodeK [h1] hd ht hq hcomp (fun h' hh => by rw [List.mem_singleton.1 hh]; exact b1) (by simp)
theorem DH.k2 {h1 h2 : Nat} (hd : dagOk l = true) (ht : tailOk l m = true) (hq : dstsOk l m = true) (hcomp : complete l m V [h1, h2] = true) (b1 : HBK F P S w0 n l ds σ Q m V η h1) (b2 : HBK F P S w0 n l ds σ Q m V η h2) : DH F P S w0 n l ds σ Q m V η :=
  DH.nodeK [h1, h2] hd ht hq hcomp (fun h' hh => by
    rcases List.mem_cons.1 hh with e | hh
    · subst e; exact b1
    · rw [List.mem_singleton.1 hh]; exact b2) (by simp)
theorem DH.k3 {h1 h2 h3 : Nat} (hd : dagOk l = true) (ht : tailOk l m = true) (hq : dstsOk l m = true) (hcomp : complete l m V [h1, h2, h3] = true) (b1 : HBK F P S w0 n l ds σ Q m V η h1) (b2 : HBK F P S w0 n l ds σ Q m V η h2) (b3 : HBK F P S w0 n l ds σ Q m V η h3) : DH F P S w0 n l ds σ Q m V η :=
  DH.nodeK [h1, h2, h3] hd ht hq hcomp (fun h' hh => by
    rcases List.mem_cons.1 hh with e | hh
    · subst e; exact b1
    · rcases List.mem_cons.1 hh with e | hh
      · subst e; exact b2
      · rw [List.mem_singleton.1 hh]; exact b3) (by simp)
end
end Go.Sl
/- The end of a function whose results lie in slots and in memory. -/
namespace Go.Sl
variable {F : Fence} {P : Program} {S : Nat → Prop} {w0 w : World} {n : Nat} {Q : Exit → Act → World → Prop} {ds : List Deferred} {σ : Env} {η : Heap}

/-- What a result variable holds. -/
def ResV (P : Program) (S : Nat → Prop) (w0 : World) (η : Heap) (σ : Env) : ResultVar → Value → Prop
  | .tmp t, v => lk σ t = some v
  | .cell c ct, v => ∃ b, lk σ c = some (.pointer (some ⟨b, 0, none⟩)) ∧ ∀ w, Hp S w0 η w → (loadVar ct ⟨b, 0, none⟩).run P w = .ok v w
def ResVs (P : Program) (S : Nat → Prop) (w0 : World) (η : Heap) (σ : Env) : List ResultVar → List Value → Prop
  | [], [] => True
  | r :: rs, v :: vs => ResV P S w0 η σ r v ∧ ResVs P S w0 η σ rs vs
  | _, _ => False
theorem ResV.tmp {t : Nat} {v : Value} (h : lk σ t = some v) : ResV P S w0 η σ (.tmp t) v := h
theorem ResV.one {c : Nat} {ct : TypeId} [Ag P ct false] {b : Nat} {x : Value} (hc : lk σ c = some (.pointer (some ⟨b, 0, none⟩))) (hx : At S w0 η ⟨b, 0, none⟩ x) : ResV P S w0 η σ (.cell c ct) x :=
  ⟨b, hc, fun _ hh => run_loadVar1 (hx.cell hh)⟩
theorem ResV.agg {c : Nat} {ct : TypeId} [Ag P ct true] {z : Value} {sz bt : Nat} [Inf P ct z sz bt] (cs : List Value) {b : Nat} (hc : lk σ c = some (.pointer (some ⟨b, 0, none⟩))) (hl : cs.length = sz) (hv : ∀ i v, cs[i]? = some v → At S w0 η ⟨b, 0 + i, none⟩ v) :
    ResV P S w0 η σ (.cell c ct) (.agg cs.toArray) :=
  ⟨b, hc, fun w hh => by simp [loadVar, Ag.eq (t := ct) (b := true), run_sizeOf (t := ct) (z := z) (sz := sz) (bt := bt), run_loadCells hl hv hh]⟩
theorem results_x {fn : Func} {rs : List ResultVar} {vs : List Value} (hr : fn.results = rs.toArray) {a : Act} (hk : Kn n ds σ a) (hh : Hp S w0 η w) (hv : ResVs P S w0 η σ rs vs) : (results fn a.tmps).run P w = .ok (retVal vs) w := by
  have key : ∀ (f : ResultVar → Sem Value), (∀ t, f (.tmp t) = pure (a.tmps.getD t undef)) → (∀ c ct b v, lk σ c = some (.pointer (some ⟨b, 0, none⟩)) → (loadVar ct ⟨b, 0, none⟩).run P w = .ok v w → (f (.cell c ct)).run P w = .ok v w) → ∀ (rs : List ResultVar) (vs : List Value), ResVs P S w0 η σ rs vs → (rs.mapM f).run P w = .ok vs w := by
    intro f hf hfc rs
    induction rs with
    | nil => intro vs hv; cases vs with
      | nil => simp
      | cons v vs => exact hv.elim
    | cons r rs ih =>
      intro vs hv
      cases vs with
      | nil => exact hv.elim
      | cons v vs =>
        have h2 := ih vs hv.2
        cases r with
        | tmp t =>
          have h1 := hk.slot _ _ hv.1
          simp only [List.mapM_cons, Sem.run_bind, hf, Sem.run_pure, Result.andThen_ok, h2]
          simp [Array.getD_eq_getD_getElem?, h1]
        | cell c ct =>
          obtain ⟨b, hb1, hb2⟩ := hv.1
          simp only [List.mapM_cons, Sem.run_bind, hfc c ct b v hb1 (hb2 w hh), Sem.run_pure, Result.andThen_ok, h2]
  unfold results
  rw [hr, Array.mapM_eq_mapM_toList]
  simp only [Sem.run_bind, Sem.run_map]
  rw [key _ (fun t => rfl) (fun c ct b v h1 h2 => by simp [Array.getD_eq_getD_getElem?, hk.slot _ _ h1, asAddr, h2]) rs vs hv]
  simp only [Result.andThen_ok, Sem.run_pure]
  exact congrArg (fun z => Result.ok z w) (retVal_eq _)
/-- The end of a function: results in slots, and in memory. -/
theorem TQ.retX {fn : Func} (rs : List ResultVar) (vs : List Value) {v : Value} {R : Value → Heap → Prop} (η2 : Heap) (hr : fn.results = rs.toArray) (hv : ResVs P S w0 η σ rs vs) (he : retVal vs = v) (hs : η2.Sublist η) (hR : R v η2) : TQ S w0 n (bodyPost P fn (post R S w0) .ret) [] σ η :=
  fun a w hk hh => ⟨hk.defers, v, by rw [results_x hr hk hh hv, he], _, η2, rfl, hh.seg hs, hR⟩
theorem TQ.retXE {fn : Func} (rs : List ResultVar) (vs : List Value) {v : Value} {R : Value → Heap → Prop} {E : List PanicEntry → Heap → Prop} (η2 : Heap) (hr : fn.results = rs.toArray) (hv : ResVs P S w0 η σ rs vs) (he : retVal vs = v) (hs : η2.Sublist η) (hR : R v η2) : TQ S w0 n (bodyPost P fn (postE R E S w0) .ret) [] σ η :=
  fun a w hk hh => ⟨hk.defers, v, by rw [results_x hr hk hh hv, he], .inl ⟨_, η2, rfl, hh.seg hs, hR⟩⟩
end Go.Sl
/- What is left of a list behind a cut. -/
namespace Go.Sl
variable {S : Nat → Prop} {w0 : World} {η : Heap}
theorem Row.cut {a : Option Addr} {cs : List Value} {k cap sz : Nat} (h : Row S w0 η a cs) (hc : cs.length ≤ cap * sz) : Row S w0 η (if cap = k then a else a.map (·.add (k * sz))) (cs.drop (k * sz)) := by
  by_cases e : cap = k
  · rw [if_pos e, List.drop_eq_nil_of_le (by rw [← e]; exact hc)]
    exact ⟨fun h => by simp at h, fun i v h => by simp at h⟩
  · rw [if_neg e]
    by_cases hl : k * sz < cs.length
    · obtain ⟨ad, rfl, hs⟩ := h.ad (by omega)
      obtain ⟨b, o, s⟩ := ad
      simp only at hs; subst hs
      have ea : (⟨b, o, none⟩ : Addr).add (k * sz) = ⟨b, o + k * sz, none⟩ := by
        unfold Addr.add; split
        · rename_i h0; rw [h0]; rfl
        · rfl
      refine ⟨fun _ => ⟨_, rfl, by simp only [ea]⟩, fun i v hi => ?_⟩
      rw [List.getElem?_drop] at hi
      have := h.cell _ v hi
      simp only [Option.map_some, ea]
      simpa [sAt, Nat.add_assoc] using this
    · rw [List.drop_eq_nil_of_le (by omega)]
      exact ⟨fun h => by simp at h, fun i v h => by simp at h⟩
theorem flat_drop {α : Type} {c : Nat} {f : α → List Value} (hf : ∀ x, (f x).length = c) : ∀ (l : List α) (k : Nat), (l.flatMap f).drop (k * c) = (l.drop k).flatMap f
  | [], k => by simp
  | x :: r, 0 => by simp
  | x :: r, k + 1 => by
    rw [List.flatMap_cons, List.drop_succ_cons, ← flat_drop hf r k, Nat.add_mul, Nat.one_mul, Nat.add_comm, ← List.drop_drop, List.drop_left' (hf x)]
theorem Row.cutF {α : Type} {c : Nat} {f : α → List Value} (hf : ∀ x, (f x).length = c) {a : Option Addr} {l : List α} {k cap : Nat} (h : Row S w0 η a (l.flatMap f)) (hc : l.length ≤ cap) : Row S w0 η (if cap = k then a else a.map (·.add (k * c))) ((l.drop k).flatMap f) := by
  rw [← flat_drop hf]
  refine h.cut ?_
  have : (l.flatMap f).length = l.length * c := by
    clear h hc
    induction l with
    | nil => simp
    | cons x r ih => rw [List.flatMap_cons, List.length_append, hf, ih, List.length_cons, Nat.add_mul]; omega
  rw [this]; exact Nat.mul_le_mul_right _ hc
theorem frz_mk2 {w : World} {ηr : Heap} (hh : Hp S w0 (ηr ++ η) w) : ∃ S', Frz S S' w0 w ηr ∧ Hp S' w η w ∧ ∀ η' a v, At S' w η' a v → At S w0 (ηr ++ η') a v := by
  obtain ⟨h1, h2⟩ := frz_mk hh
  refine ⟨_, h1, h2, fun η' a v h => ?_⟩
  cases h with
  | rd h hc =>
    rcases h with h | h
    · refine .rd h ?_
      have := (hh.same _ h).2
      simp only [World.cell?, this] at hc ⊢
      exact hc
    · obtain ⟨p, hp, he⟩ := List.mem_map.1 h
      have h3 := (hh.own p (by rw [List.flatten_append, List.mem_append]; exact .inl hp)).1
      obtain ⟨seg, hs, hps⟩ := List.mem_flatten.1 hp
      rw [he] at h3
      have hsp := (cell_lt hc).2
      unfold World.cell? at hc
      rw [h3] at hc
      obtain ⟨pb, po⟩ := p
      simp only at he hc; subst he
      cases po with
      | cells cs e fz =>
        simp only [hsp] at hc
        exact .own seg (List.mem_append_left _ hs) cs e fz hps (by simpa using hc) hsp
      | _ => simp at hc
  | own seg hs cs e fz hp hc hsp => exact .own seg (List.mem_append_right _ hs) cs e fz hp hc hsp
/-- A contract whose arguments lie in read memory, where they lie in blocks of one's own. -/
theorem Rt.frame {P : Program} {g : FuncId} {args : Array Value} {R : Value → Heap → Prop} (ηr : Heap) {η2 : Heap} (he : η = ηr ++ η2)
    (h : ∀ S' w1, Frz S S' w0 w1 ηr → (∀ η' a v, At S' w1 η' a v → At S w0 (ηr ++ η') a v) → Rt P g args S' w1 η2 (fun v η' => R v (ηr ++ η'))) : Rt P g args S w0 η R := fun w hh => by
  subst he
  obtain ⟨S', hz, h2, h3⟩ := frz_mk2 hh
  exact (h _ _ hz h3 w h2).mono fun e w' ⟨v, η', h1, h2, h3⟩ => ⟨v, ηr ++ η', h1, hz.back _ _ h2, h3⟩
theorem Row.thaw {S' : Nat → Prop} {w1 : World} {ηr η' : Heap} {a : Option Addr} {cs : List Value} (hb : ∀ η' a v, At S' w1 η' a v → At S w0 (ηr ++ η') a v) (h : Row S' w1 η' a cs) : Row S w0 (ηr ++ η') a cs := ⟨h.ad, fun i v hi => hb _ _ _ (h.cell i v hi)⟩
end Go.Sl
/- make of a slice of elements of any size. -/
namespace Go.Sl
variable {S : Nat → Prop} {w0 : World} {η : Heap}
section
variable {F : Fence} {P : Program} {w : World} {n : Nat} {Q : Exit → Act → World → Prop} {ds : List Deferred} {σ : Env} {ops : Array Oper} {d : Nat} {ty : TypeId} {pos : String} {af : Array Edge} {rest : List Oper}
/-- make of a slice of elements of any size. -/
theorem TL.makeSliceN (hF : Open F) {t e : TypeId} [Und P t (.slice e)] {z : Value} {sz bt : Nat} [Inf P e z sz bt] {x y : Operand} {k : Nat} (hx : ev σ x = some (.int .i64 (k : Int))) (hy : ev σ y = some (.int .i64 (k : Int))) (cs : List Value) (hcs : ((Array.range (k * sz)).map fun i => z.cells[i % z.cells.size]!) = cs.toArray) (hk0 : 0 < k) (hsz : 0 < sz) (hb : k * bt ≤ 281474976710656) (hk : k ≤ 4611686018427387904) (hn : Nat.blt d n = true)
    (h : ∀ b, TL F P S w0 n ops Q rest ds ((d, .slice (some ⟨b, 0, none⟩) k k) :: σ) ([(b, .cells cs.toArray e (0, 0))] :: η)) :
    TL F P S w0 n ops Q (⟨some d, .makeSlice t x y, ty, pos, af, none⟩ :: rest) ds σ η :=
  TL.val hF (by intro c; simp) hn fun a w hkn hh => by
    obtain ⟨inf, hinf, hiz, hisz, hibt⟩ := run_typeInfo (P := P) (t := e) (z := z) (sz := sz) (bt := bt)
    refine ⟨_, _, _, ?_, hh.alloc _, h _⟩
    have hw : IntKind.i64.wrap (k : Int) = k := wrap_i64 (by omega) (by omega)
    have hb' : ¬ ((281474976710656 : Int) < (bt : Int) * (k : Int)) := by
      have : ((k * bt : Nat) : Int) ≤ 281474976710656 := by omega
      rw [Int.natCast_mul, Int.mul_comm] at this
      omega
    have h0 : ¬ (k * sz = 0) := Nat.pos_iff_ne_zero.1 (Nat.mul_pos hk0 hsz)
    simp [execOp, Instr.makeSlice, hkn.ev hx, hkn.ev hy, run_underlying (t := t) (d := .slice e), asInt, asIntOf, hinf, hibt, hw, hb', run_sizeOf (t := e) (z := z) (sz := sz) (bt := bt), newRow, run_zeroValue (t := e) (z := z) (sz := sz) (bt := bt), h0, hcs, show ¬ ((k : Int) < 0) by omega]
end
end Go.Sl
/- Slices: is one nil; of an array; its room; append of a make. -/
namespace Go.Sl
variable {S : Nat → Prop} {w0 : World} {η : Heap}
section
variable {F : Fence} {P : Program} {w : World} {n : Nat} {Q : Exit → Act → World → Prop} {ds : List Deferred} {σ : Env} {ops : Array Oper} {d : Nat} {ty : TypeId} {pos : String} {af : Array Edge} {rest : List Oper}
theorem run_equalIn_nil (w : World) (n : Nat) {xt e : TypeId} [Und P xt (.slice e)] (a : Option Addr) (l c : Nat) : (Op.equalIn (n + 1) xt (.slice a l c) (.slice none 0 0)).run P w = .ok a.isNone w := by
  cases a <;> simp [Op.equalIn, run_underlying (t := xt) (d := .slice e)]
/-- Is a slice nil? -/
theorem TL.nilSl (hF : Open F) {xt yt e : TypeId} [hu : Und P xt (.slice e)] {x y : Operand} {a : Option Addr} {l c : Nat} (hx : ev σ x = some (.slice a l c)) (hy : ev σ y = some (.slice none 0 0)) (hn : Nat.blt d n = true)
    (h : TL F P S w0 n ops Q rest ds ((d, .bool a.isNone) :: σ) η) : TL F P S w0 n ops Q (⟨some d, .binOp .eql xt x y yt, ty, pos, af, none⟩ :: rest) ds σ η :=
  TL.binR hF hx hy (fun w => by
    have he : (Op.equalIn Op.maxDepth xt (.slice a l c) (.slice none 0 0)).run P w = .ok a.isNone w := run_equalIn_nil w 9999 (e := e) a l c
    simp [eqGuard, binOp, Op.equal, he]) hn h
/-- A slice of a whole array. -/
theorem TL.sliceA (hF : Open F) {arr e : TypeId} {len : Nat} [Und P arr (.array len e)] {z : Value} {sz bt : Nat} [Inf P e z sz bt] {x : Operand} {b : Nat} (hx : ev σ x = some (.pointer (some ⟨b, 0, none⟩))) (hn : Nat.blt d n = true)
    (h : TL F P S w0 n ops Q rest ds ((d, .slice (some ⟨b, 0, none⟩) len len) :: σ) η) : TL F P S w0 n ops Q (⟨some d, .slice arr x none none none, ty, pos, af, none⟩ :: rest) ds σ η :=
  TL.pure hF (by intro c; simp) hn (fun a w hk _ => by
    have h1 : (⟨b, 0, none⟩ : Addr).add 0 = ⟨b, 0, none⟩ := by unfold Addr.add; split <;> simp_all
    simp [execOp, Instr.sliceAt, Instr.sliceBounds, run_underlying (t := arr) (d := .array len e), hk.ev hx, Instr.sureAddr, run_sizeOf (t := e) (z := z) (sz := sz) (bt := bt), h1]) h
/-- The room of a slice. -/
theorem TL.capS (hF : Open F) {t e : TypeId} [Und P t (.slice e)] {x : Operand} {a : Option Addr} {l c : Nat} (hx : ev σ x = some (.slice a l c)) (hn : Nat.blt d n = true)
    (h : TL F P S w0 n ops Q rest ds ((d, .int .i64 (c : Int)) :: σ) η) : TL F P S w0 n ops Q (⟨some d, .call ⟨.builtin .cap, #[x], #[t]⟩, ty, pos, af, none⟩ :: rest) ds σ η :=
  TL.pure hF (by intro c; simp) hn (fun a w hk _ => by
    simp [execOp, resolve, Go.invoke, Go.builtin, Builtin.cap_, hk.ev hx, run_underlying (t := t) (d := .slice e), goInt]) h
/-- append of so many zeros to nil. -/
theorem TL.appendMk (hF : Open F) {t ti e : TypeId} [Und P t (.slice e)] [Und P ti (.int .i64)] {z : Value} {sz bt : Nat} [Inf P e z sz bt] {x y : Operand} {k : Nat} (hx : ev σ x = some (.slice none 0 0)) (hy : ev σ y = some (.int .i64 (k : Int))) (hk : 0 < k) (hz : z.cells.size = sz) (hs : 0 < sz) (hb : k * bt ≤ 140737488355328) (hk2 : k ≤ 4611686018427387904) (hn : Nat.blt d n = true)
    (h : ∀ b c cur, cur.size = c * sz → k ≤ c → TL F P S w0 n ops Q rest ds ((d, .slice (some ⟨b, 0, none⟩) k c) :: σ) ([(b, .cells cur e (0, 0))] :: η)) :
    TL F P S w0 n ops Q (⟨some d, .call ⟨.builtin .append, #[x, y], #[t, ti]⟩, ty, pos, af, none⟩ :: rest) ds σ η :=
  TL.val hF (by intro c; simp) hn fun a w hkn hh => by
    obtain ⟨inf, hinf, hiz, hisz, hibt⟩ := run_typeInfo (P := P) (t := e) (z := z) (sz := sz) (bt := bt)
    have hcut : ∃ k2, (Question.appendCap k 0 e).cut (w.tape w.drawn (.appendCap k 0 e)) = k + k2 := ⟨_, rfl⟩
    obtain ⟨k2, hk3⟩ := hcut
    have hq : (Question.appendCap k 0 e).forced = false := rfl
    have hg : Builtin.nextslicecap k 0 = k := by unfold Builtin.nextslicecap; rw [if_pos (by omega)]
    have hw : IntKind.i64.wrap (k : Int) = (k : Int) := wrap_i64 (by omega) (by omega)
    have hbi : ((k : Int) * (bt : Int)) ≤ 140737488355328 := by
      have h1 : ((k * bt : Nat) : Int) ≤ ((140737488355328 : Nat) : Int) := Int.ofNat_le.2 hb
      rw [Int.natCast_mul] at h1; exact h1
    have hks : k * sz ≠ 0 := Nat.mul_ne_zero (by omega) (by omega)
    have f1 : ¬ ((k : Int) < 0) := by omega
    have f2 : ¬ (281474976710656 < (k : Int) * (bt : Int)) := by omega
    have f3 : ¬ ((k : Int) ≤ 0) := by omega
    have f4 : ¬ (9223372036854775807 < max (k : Int) 0) := by omega
    have f5 : ¬ (281474976710656 < k * bt) := by omega
    have f6 : (Builtin.firstCells sz 0 (.slice none 0 0)).run P w.drew = .ok #[] w.drew := by simp [Builtin.firstCells]
    have hrun : (Builtin.append_ #[t, ti] ty #[.slice none 0 0, .int .i64 (k : Int)]).run P w = .ok (.slice (some ⟨w.heap.size, 0, none⟩) k (k + k2)) (w.drew.alloc (.cells (Builtin.zeroCells z.cells k ++ Builtin.zeroCells z.cells k2) e (0, 0))) := by
      simp [Builtin.append_, run_underlying (t := t) (d := .slice e), run_underlying (t := ti) (d := .int .i64), run_sizeOf (t := e) (z := z) (sz := sz) (bt := bt), hw, hinf, hibt, hq, hk3, hg, run_zeroValue (t := e) (z := z) (sz := sz) (bt := bt), newRow, asInt, asIntOf, f1, f2, f5]
      rw [if_neg (by omega), if_neg (by omega)]
      simp only [f6, Result.andThen_ok, if_neg hks, Array.empty_append]
      rfl
    refine ⟨.slice (some ⟨w.heap.size, 0, none⟩) k (k + k2), w.drew.alloc (.cells (Builtin.zeroCells z.cells k ++ Builtin.zeroCells z.cells k2) e (0, 0)), [(w.heap.size, .cells (Builtin.zeroCells z.cells k ++ Builtin.zeroCells z.cells k2) e (0, 0))] :: η, ?_, (hh.drew (w.drawn + 1)).alloc _, h _ _ _ ?_ ?_⟩
    · simp [execOp, resolve, Go.invoke, Go.builtin, hkn.ev hx, hkn.ev hy, hrun]
    · simp [Builtin.zeroCells, hz, Nat.add_mul]
    · omega
end
end Go.Sl
/- The library's sort of a list of cells, by the kit's contract of it. -/
namespace Go.Sl
open Go.Sort Go.RowKit Go.Shelf Go.Proofs
variable {S : Nat → Prop} {w0 w : World} {η : Heap} {P : Program}
/-- What a world becomes by what turns nothing. -/
theorem grow_of {w w' : World} {η : Heap} (h : Hp (· < w.heap.size) w η w') : ∃ q os, w' = grow (w.drewN q) os := by
  refine ⟨w'.drawn - w.drawn, w'.heap.extract w.heap.size w'.heap.size, ?_⟩
  have h1 := h.os; have h2 := h.tape; have h3 := h.output; have h4 := h.drawn; have h5 := h.size
  have hheap : w'.heap = w.heap ++ w'.heap.extract w.heap.size w'.heap.size := by
    apply Array.ext_getElem?
    intro k
    rw [Array.getElem?_append]
    split
    · rename_i hk; exact (h.same k hk).2
    · rename_i hk
      rw [Array.getElem?_extract]
      split
      · rw [show w.heap.size + (k - w.heap.size) = k by omega]
      · rw [Array.getElem?_eq_none (by omega)]
  cases w'
  simp only at *
  subst h1 h2 h3
  unfold grow World.drewN
  simp only [World.mk.injEq, and_true, true_and]
  exact ⟨hheap, by omega⟩
/-- What is read beside an owned block lies in another one. -/
theorem At.beside {b : Nat} {o : Obj} (hh : Hp S w0 ([(b, o)] :: η) w) {a : Addr} {v : Value} (h : At S w0 η a v) : a.block ≠ b ∧ a.block < w.heap.size ∧ w.cell? a = some v := by
  have hup : At S w0 ([(b, o)] :: η) a v := h.up fun s hs => List.mem_cons_of_mem _ hs
  have hc := hup.cell hh
  refine ⟨fun e => ?_, ?_, hc⟩
  · have hb := (hh.own (b, o) (by simp)).2
    cases h with
    | rd hS _ => rw [e] at hS; exact hb hS
    | own seg hs cs e2 fz hp hc2 hsp =>
      have hn := hh.once
      simp only [List.flatten_cons, List.map_append, List.map_cons, List.map_nil] at hn
      rw [List.nodup_append] at hn
      refine hn.2.2 b (by simp) b ?_ rfl
      rw [← e]
      exact List.mem_map_of_mem (f := (·.1)) (List.mem_flatten.2 ⟨seg, hs, hp⟩)
  · unfold World.cell? at hc
    cases hg : w.heap[a.block]? with
    | none => rw [hg] at hc; simp at hc
    | some o => exact (Array.getElem?_eq_some_iff.1 hg).1
/-- The same in a world in which only that block has been written anew, and others were made. -/
theorem sw_heap {α : Type} [Inhabited α] (enc : α → Value) (w : World) (b m : Nat) (dk : Array α) (os : Array Obj) {k : Nat} (hk : k < w.heap.size) (hb : k ≠ b) : (sortWorld enc w b 0 m dk os).heap[k]? = w.heap[k]? := by
  unfold sortWorld grow putRow mapBlock Sort.ahead
  simp only
  rw [Array.getElem?_append_left (by simpa using hk), Array.getElem?_modify, if_neg (Ne.symm hb)]
theorem sw_at {α : Type} [Inhabited α] (enc : α → Value) {b m : Nat} {o : Obj} (hh : Hp S w0 ([(b, o)] :: η) w) (dk : Array α) (os : Array Obj) {a : Addr} {v : Value} (h : At S w0 η a v) :
    At (· < (sortWorld enc w b 0 m dk os).heap.size) (sortWorld enc w b 0 m dk os) [] a v := by
  obtain ⟨h1, h2, h3⟩ := h.beside hh
  have e := sw_heap enc w b m dk os h2 h1
  have hlt : a.block < (sortWorld enc w b 0 m dk os).heap.size := by
    rw [Array.getElem?_eq_getElem h2] at e
    exact (Array.getElem?_eq_some_iff.1 e).1
  refine .rd hlt ?_
  unfold World.cell? at h3 ⊢
  rw [e]; exact h3
theorem pdq_rt {ρ : Ren} (L : SlLaysF.n14 P ρ) {m : Nat} (f : _root_.Fin (m + 1) → Value) (h1 : ∀ j, (f j).oneCell' = true) (cf : _root_.Fin (m + 1) → _root_.Fin (m + 1) → Int) (hO : SWO (ltOf cf)) (g : Nat) (cb : List Value) [hg : Ent P g] {b cap lim : Nat} {cur : Array Value} {e : TypeId}
    (hcur : cur.toList.take (m + 1) = List.ofFn f) (hm : m + 1 < 1099511627776) (hlim : lim < 4611686018427387904)
    (hcmp : ∀ W : World, (∀ a v, At S w0 η a v → At (· < W.heap.size) W [] a v) → ∀ x y : _root_.Fin (m + 1), Rt P g (f x :: f y :: cb).toArray (· < W.heap.size) W [] (fun v _ => v = .int .i64 (cf x y))) :
    Rt P (ρ.f 14) #[.slice (some ⟨b, 0, none⟩) (m + 1) cap, .int .i64 0, .int .i64 ((m + 1 : Nat) : Int), .int .i64 (lim : Int), .func (.func g) #[] cb.toArray] S w0 ([(b, .cells cur e (0, 0))] :: η)
      (fun _ η' => ∃ (cur' : Array Value) (dk : List (_root_.Fin (m + 1))), η' = [(b, .cells cur' e (0, 0))] :: η ∧ cur'.size = cur.size ∧ dk.Perm (List.ofFn id) ∧ cur'.toList.take (m + 1) = dk.map f ∧ dk.Pairwise (fun x y => ¬ cf y x < 0)) := by
  intro w hh
  have hb : w.heap[b]? = some (.cells cur e (0, 0)) := hh.inMem (by simp)
  have hsz : m + 1 ≤ cur.size := by
    have := congrArg List.length hcur
    simp at this; omega
  have hds : (Array.ofFn (id : _root_.Fin (m + 1) → _root_.Fin (m + 1))).size = m + 1 := by simp
  have hH : Holds f w b 0 (Array.ofFn (id : _root_.Fin (m + 1) → _root_.Fin (m + 1))) := by
    intro j hj
    rw [hds] at hj
    have hget : cur[j]? = some (f ⟨j, hj⟩) := by
      have h2 : (cur.toList.take (m + 1))[j]? = some (f ⟨j, hj⟩) := by rw [hcur, List.getElem?_ofFn, dif_pos hj]
      rw [List.getElem?_take_of_lt hj] at h2
      simpa using h2
    have hd : (Array.ofFn (id : _root_.Fin (m + 1) → _root_.Fin (m + 1)))[j]! = ⟨j, hj⟩ := by rw [getElem!_pos _ j (by rw [hds]; exact hj)]; simp
    rw [hd]
    constructor
    · simp only [World.cell?, hb, Nat.zero_add]; simpa using hget
    · simp [World.frozen?, hb]
  have hblk : b < w.heap.size := (Array.getElem?_eq_some_iff.1 hb).1
  have hlays : CmpLays1 P g cb.toArray f cf b 0 (Array.ofFn (id : _root_.Fin (m + 1) → _root_.Fin (m + 1))).size w := by
    intro mm os dk _ x y
    have hc := hcmp (sortWorld f w b 0 mm dk os) (fun a v h => sw_at f hh dk os h) x y _ (Hp.start _)
    have ea : (#[f x, f y] ++ cb.toArray : Array Value) = (f x :: f y :: cb).toArray := by simp
    rw [ea]
    refine hc.mono ?_
    rintro e2 w' ⟨v, η', rfl, hh', rfl⟩
    exact ⟨rfl, grow_of hh'⟩
  have hp := Any.pdqsortCmpFunc_all L f cf g cb.toArray hO b 0 cap (Array.ofFn id) w hg.eq hlays ⟨h1, hH, hblk⟩ (m + 2) 0 (m + 1) lim (Array.ofFn id) w (by omega) rfl (SW.start hH) (by omega) (by simp) (by simp; omega) hlim (Or.inl rfl)
  rw [hds] at hp
  refine hp.mono ?_
  rintro e2 w' ⟨rfl, n, os, rfl⟩
  have hsort := pdq_sorts (ltOf cf) hO (Array.ofFn (id : _root_.Fin (m + 1) → _root_.Fin (m + 1))) 0 (m + 1) lim true true (Nat.zero_le _) (by simp) (Or.inl rfl)
  generalize pdq (ltOf cf) (Array.ofFn (id : _root_.Fin (m + 1) → _root_.Fin (m + 1))) 0 (m + 1) lim true true = dk at hsort ⊢
  obtain ⟨⟨hs1, _, hs3⟩, hs4⟩ := hsort
  rw [hds] at hs1
  have hW : Hp S w0 ([(b, .cells (putCells f 0 dk cur) e (0, 0))] :: η) (sortWorld f w b 0 n dk os) := by
    have hbl : (sortWorld f w b 0 n dk os).heap[b]? = some (.cells (putCells f 0 dk cur) e (0, 0)) := by
      unfold sortWorld grow putRow mapBlock Sort.ahead
      simp only
      rw [Array.getElem?_append_left (by simpa using hblk), Array.getElem?_modify, if_pos rfl, hb]
      rfl
    have hn := hh.once
    refine ⟨hh.os, hh.tape, hh.output, Nat.le_trans hh.drawn (by show w.drawn ≤ w.drawn + n; omega), ?_, fun k hk => ?_, fun p hp => ?_, by simpa using hn⟩
    · have := hh.size
      unfold sortWorld grow putRow mapBlock Sort.ahead
      simp; omega
    · obtain ⟨g1, g2⟩ := hh.same k hk
      refine ⟨g1, ?_⟩
      rw [sw_heap f w b n dk os (Nat.lt_of_lt_of_le g1 hh.size) (fun q => (hh.own (b, .cells cur e (0, 0)) (by simp)).2 (q ▸ hk)), g2]
    · simp only [List.flatten_cons, List.cons_append, List.nil_append, List.mem_cons] at hp
      rcases hp with rfl | hp
      · exact ⟨hbl, (hh.own (b, .cells cur e (0, 0)) (by simp)).2⟩
      · have hown := hh.own p (by simp only [List.flatten_cons, List.mem_append]; exact .inr hp)
        refine ⟨?_, hown.2⟩
        have hlt := (Array.getElem?_eq_some_iff.1 hown.1).1
        have hne : p.1 ≠ b := fun q => by
          simp only [List.flatten_cons, List.map_append, List.map_cons, List.map_nil] at hn
          rw [List.nodup_append] at hn
          exact hn.2.2 b (by simp) b (q ▸ List.mem_map_of_mem (f := (·.1)) hp) rfl
        rw [sw_heap f w b n dk os hlt hne]; exact hown.1
  have hdl : dk.toList.length = m + 1 := by simpa using hs1
  refine ⟨_, _, rfl, hW, putCells f 0 dk cur, dk.toList, rfl, by simp [putCells], ?_, ?_, ?_⟩
  · have e1 : (dk.extract 0 (m + 1)).toList = dk.toList := by
      have h6 := @Array.extract_size _ dk
      rw [hs1] at h6; rw [h6]
    have e2 : ((Array.ofFn (id : _root_.Fin (m + 1) → _root_.Fin (m + 1))).extract 0 (m + 1)).toList = List.ofFn id := by
      have : (Array.ofFn (id : _root_.Fin (m + 1) → _root_.Fin (m + 1))).extract 0 (m + 1) = Array.ofFn id := by
        have := @Array.extract_size _ (Array.ofFn (id : _root_.Fin (m + 1) → _root_.Fin (m + 1)))
        rwa [hds] at this
      rw [this, Array.toList_ofFn]
    rw [e1, e2] at hs3; exact hs3
  · apply List.ext_getElem?
    intro i
    by_cases hi : i < m + 1
    · rw [List.getElem?_take_of_lt hi, List.getElem?_map]
      have h3 : dk.toList[i]? = some dk[i] := by simp [hs1, hi]
      rw [h3]
      simp only [putCells, Array.getElem?_toList, Array.getElem?_mapIdx, Option.map_some]
      rw [Array.getElem?_eq_getElem (by omega)]
      simp [hs1, hi]
    · rw [List.getElem?_eq_none (by simp; omega), List.getElem?_eq_none (by simp; omega)]
  · rw [List.pairwise_iff_getElem]
    intro i j hi hj hij
    have h5 := hs4 i j (Nat.zero_le _) hij (by omega)
    rw [getElem!_pos dk j (by omega), getElem!_pos dk i (by omega)] at h5
    simpa [ltOf] using h5
end Go.Sl
/- Four heavy operations may come next, behind which reads are still to come. -/
namespace Go.Sl
section
variable {F : Fence} {P : Program} {S S' : Nat → Prop} {w0 w w1 : World} {n : Nat} {Q : Exit → Act → World → Prop} {l : List Oper} {ds : List Deferred} {σ : Env} {η ηr : Heap} {m : Nat} {V : VL}
theorem DH.k4 {h1 h2 h3 h4 : Nat} (hd : dagOk l = true) (ht : tailOk l m = true) (hq : dstsOk l m = true) (hcomp : complete l m V [h1, h2, h3, h4] = true) (b1 : HBK F P S w0 n l ds σ Q m V η h1) (b2 : HBK F P S w0 n l ds σ Q m V η h2) (b3 : HBK F P S w0 n l ds σ Q m V η h3) (b4 : HBK F P S w0 n l ds σ Q m V η h4) : DH F P S w0 n l ds σ Q m V η :=
  DH.nodeK [h1, h2, h3, h4] hd ht hq hcomp (fun h' hh => by
    rcases List.mem_cons.1 hh with e | hh
    · subst e; exact b1
    · rcases List.mem_cons.1 hh with e | hh
      · subst e; exact b2
      · rcases List.mem_cons.1 hh with e | hh
        · subst e; exact b3
        · rw [List.mem_singleton.1 hh]; exact b4) (by simp)
end
end Go.Sl
/- A quotient of any two numbers. -/
namespace Go.Sl
section
variable {F : Fence} {P : Program} {S : Nat → Prop} {w0 w : World} {n : Nat} {Q : Exit → Act → World → Prop} {ds : List Deferred} {σ : Env} {η : Heap} {ops : Array Oper} {rest : List Oper} {d : Nat} {ty : TypeId} {pos : String} {af : Array Edge}
theorem TL.quoI (hF : Open F) {xt yt : TypeId} {x y : Operand} {k : IntKind} {a b r : Int} (hx : ev σ x = some (.int k a)) (hy : ev σ y = some (.int k b)) (hb : b ≠ 0) (hr : k.wrap (Int.tdiv a b) = r) (hn : Nat.blt d n = true)
    (h : TL F P S w0 n ops Q rest ds ((d, .int k r) :: σ) η) : TL F P S w0 n ops Q (⟨some d, .binOp .quo xt x y yt, ty, pos, af, none⟩ :: rest) ds σ η :=
  TL.pure hF (by intro c; simp) hn (fun c w hk _ => by
    have hb' : (Op.intDiv .quo k a b).run P w = .ok (.int k r) w := by
      unfold Op.intDiv
      rw [if_neg hb]
      simp only [Sem.run_pure]
      first | rw [hr] | simp [hr]
    simp [execOp, hk.ev hx, hk.ev hy, eqGuard, binOp, hb']) h
end
end Go.Sl
/- Bits of numbers that are not negative. -/
namespace Go.Sl
/-- What one has that another one has not. -/
def bnot (a b : Nat) : Nat := a ^^^ (a &&& b)
theorem testBit_bnot (a b i : Nat) : (bnot a b).testBit i = (a.testBit i && !b.testBit i) := by
  unfold bnot
  rw [Nat.testBit_xor, Nat.testBit_and]
  cases a.testBit i <;> cases b.testBit i <;> rfl
theorem bnot_le (a b : Nat) : bnot a b ≤ a := by
  refine Nat.le_of_testBit ?_
  intro i h
  rw [testBit_bnot, Bool.and_eq_true] at h
  exact h.1
section
variable {F : Fence} {P : Program} {S : Nat → Prop} {w0 w : World} {n : Nat} {Q : Exit → Act → World → Prop} {ds : List Deferred} {σ : Env} {η : Heap} {ops : Array Oper} {rest : List Oper} {ty : TypeId} {pos : String} {af : Array Edge} {d : Nat}
theorem ofNat64 {a : Nat} (h : a < 2 ^ 64) : (BitVec.ofInt 64 (a : Int)).toNat = a := by rw [BitVec.ofInt_natCast, BitVec.toNat_ofNat, Nat.mod_eq_of_lt h]
theorem TL.andS (hF : Open F) {xt yt : TypeId} {x y : Operand} {a m : Nat} (hx : ev σ x = some (.int .i64 (a : Int))) (hy : ev σ y = some (.int .i64 (m : Int))) (ha : a < 2 ^ 63) (hm : m < 2 ^ 63) (hn : Nat.blt d n = true)
    (h : TL F P S w0 n ops Q rest ds ((d, .int .i64 ((a &&& m : Nat) : Int)) :: σ) η) : TL F P S w0 n ops Q (⟨some d, .binOp .and xt x y yt, ty, pos, af, none⟩ :: rest) ds σ η :=
  TL.pure hF (by intro c; simp) hn (fun b w hk _ => by
    have hle : a &&& m ≤ a := Nat.and_le_left
    have hb : (Op.intBits .and .i64 (a : Int) (m : Int)).run P w = .ok (.int .i64 ((a &&& m : Nat) : Int)) w := by
      have e : (BitVec.ofInt 64 (a : Int) &&& BitVec.ofInt 64 (m : Int)).toNat = a &&& m := and_toNat (by omega) (by omega)
      unfold Op.intBits
      simp only [Sem.run_pure]
      show Result.ok (Value.int .i64 (IntKind.i64.wrap ((BitVec.ofInt 64 (a : Int) &&& BitVec.ofInt 64 (m : Int)).toNat : Int))) w = _
      rw [e, wrap_i64 (by omega) (by omega)]
    simp [execOp, hk.ev hx, hk.ev hy, eqGuard, binOp, hb]) h
theorem TL.orS (hF : Open F) {xt yt : TypeId} {x y : Operand} {a m : Nat} (hx : ev σ x = some (.int .i64 (a : Int))) (hy : ev σ y = some (.int .i64 (m : Int))) (ha : a < 2 ^ 62) (hm : m < 2 ^ 62) (hn : Nat.blt d n = true)
    (h : TL F P S w0 n ops Q rest ds ((d, .int .i64 ((a ||| m : Nat) : Int)) :: σ) η) : TL F P S w0 n ops Q (⟨some d, .binOp .or xt x y yt, ty, pos, af, none⟩ :: rest) ds σ η :=
  TL.pure hF (by intro c; simp) hn (fun b w hk _ => by
    have hlt : a ||| m < 2 ^ 62 := Nat.or_lt_two_pow ha hm
    have hb : (Op.intBits .or .i64 (a : Int) (m : Int)).run P w = .ok (.int .i64 ((a ||| m : Nat) : Int)) w := by
      have e : (BitVec.ofInt 64 (a : Int) ||| BitVec.ofInt 64 (m : Int)).toNat = a ||| m := by rw [BitVec.toNat_or, ofNat64 (by omega), ofNat64 (by omega)]
      unfold Op.intBits
      simp only [Sem.run_pure]
      show Result.ok (Value.int .i64 (IntKind.i64.wrap ((BitVec.ofInt 64 (a : Int) ||| BitVec.ofInt 64 (m : Int)).toNat : Int))) w = _
      rw [e, wrap_i64 (by omega) (by omega)]
    simp [execOp, hk.ev hx, hk.ev hy, eqGuard, binOp, hb]) h
theorem TL.andNotS (hF : Open F) {xt yt : TypeId} {x y : Operand} {a m : Nat} (hx : ev σ x = some (.int .i64 (a : Int))) (hy : ev σ y = some (.int .i64 (m : Int))) (ha : a < 2 ^ 63) (hm : m < 2 ^ 63) (hn : Nat.blt d n = true)
    (h : TL F P S w0 n ops Q rest ds ((d, .int .i64 ((bnot a m : Nat) : Int)) :: σ) η) : TL F P S w0 n ops Q (⟨some d, .binOp .andNot xt x y yt, ty, pos, af, none⟩ :: rest) ds σ η :=
  TL.pure hF (by intro c; simp) hn (fun b w hk _ => by
    have hle := bnot_le a m
    have hb : (Op.intBits .andNot .i64 (a : Int) (m : Int)).run P w = .ok (.int .i64 ((bnot a m : Nat) : Int)) w := by
      have e : (BitVec.ofInt 64 (a : Int) &&& ~~~ BitVec.ofInt 64 (m : Int)).toNat = bnot a m := by
        refine Nat.eq_of_testBit_eq fun i => ?_
        rw [testBit_bnot, BitVec.toNat_and, Nat.testBit_and, ofNat64 (by omega)]
        by_cases hi : i < 64
        · rw [BitVec.testBit_toNat, BitVec.getLsbD_not, decide_eq_true hi, Bool.true_and, ← BitVec.testBit_toNat, ofNat64 (by omega)]
        · rw [Nat.testBit_lt_two_pow (Nat.lt_of_lt_of_le (show a < 2 ^ 64 by omega) (Nat.pow_le_pow_right (by decide) (by omega)))]; rfl
      unfold Op.intBits
      simp only [Sem.run_pure]
      show Result.ok (Value.int .i64 (IntKind.i64.wrap ((BitVec.ofInt 64 (a : Int) &&& ~~~ BitVec.ofInt 64 (m : Int)).toNat : Int))) w = _
      rw [e, wrap_i64 (by omega) (by omega)]
    simp [execOp, hk.ev hx, hk.ev hy, eqGuard, binOp, hb]) h
theorem TL.shlS (hF : Open F) {xt yt : TypeId} {x y : Operand} {yk : IntKind} {a s : Nat} (hx : ev σ x = some (.int .i64 (a : Int))) (hy : ev σ y = some (.int yk (s : Int))) (hs : s ≤ 64) (hr : a * 2 ^ s < 2 ^ 63) (hn : Nat.blt d n = true)
    (h : TL F P S w0 n ops Q rest ds ((d, .int .i64 ((a * 2 ^ s : Nat) : Int)) :: σ) η) : TL F P S w0 n ops Q (⟨some d, .binOp .shl xt x y yt, ty, pos, af, none⟩ :: rest) ds σ η :=
  TL.pure hF (by intro c; simp) hn (fun c w hk _ => by
    have hb : (Op.shift .shl .i64 (a : Int) yk (s : Int)).run P w = .ok (.int .i64 ((a * 2 ^ s : Nat) : Int)) w := by
      unfold Op.shift
      rw [if_neg (by omega)]
      have e : min ((s : Int).toNat) IntKind.i64.bits = s := by rw [Int.toNat_natCast]; exact Nat.min_eq_left hs
      simp only [e, Sem.run_pure]
      have e2 : (a : Int) * 2 ^ s = ((a * 2 ^ s : Nat) : Int) := by rw [Int.natCast_mul, Int.natCast_pow]; rfl
      have hw : IntKind.i64.wrap ((a : Int) * 2 ^ s) = ((a * 2 ^ s : Nat) : Int) := by rw [e2]; exact wrap_i64 (by omega) (by omega)
      show Result.ok (Value.int .i64 (IntKind.i64.wrap ((a : Int) * 2 ^ s))) w = _
      rw [hw]
    have hf : (execOp c.eval ⟨some d, .binOp .shl xt x y yt, ty, pos, af, none⟩).run P w = .ok (.value (.int .i64 ((a * 2 ^ s : Nat) : Int))) w := by
      simp only [execOp, hk.ev hx, hk.ev hy]
      have hb2 : (binOp .shl xt (.int .i64 (a : Int)) (.int yk (s : Int))).run P w = .ok (.int .i64 ((a * 2 ^ s : Nat) : Int)) w := hb
      simp only [eqGuard, Sem.run_bind, Sem.run_pure, Result.andThen_ok, ite_self, hb2]
    exact hf) h
end
end Go.Sl
/- Two results, the first one in memory. -/
namespace Go.Sl
section
variable {F : Fence} {P : Program} {S : Nat → Prop} {w0 w : World} {n : Nat} {ds : List Deferred} {σ : Env} {η : Heap}
theorem TQ.retCT {fn : Func} {c t : Nat} {ct : TypeId} [Ag P ct true] {z : Value} {sz bt : Nat} [Inf P ct z sz bt] (cs : List Value) {b : Nat} {v2 : Value} {R : Value → Heap → Prop} (η2 : Heap) (hr : fn.results = #[ResultVar.cell c ct, ResultVar.tmp t]) (hc : lk σ c = some (.pointer (some ⟨b, 0, none⟩))) (ht : lk σ t = some v2)
    (hl : cs.length = sz) (hv : ∀ i v, cs[i]? = some v → At S w0 η ⟨b, 0 + i, none⟩ v) (hs : η2.Sublist η) (hR : R (.tuple #[.agg cs.toArray, v2]) η2) : TQ S w0 n (bodyPost P fn (post R S w0) .ret) [] σ η := fun a w hk hh => by
  refine ⟨hk.defers, .tuple #[.agg cs.toArray, v2], ?_, _, η2, rfl, hh.seg hs, hR⟩
  have hc2 := hk.slot _ _ hc
  have ht2 := hk.slot _ _ ht
  unfold results
  rw [hr]
  simp [Array.mapM_eq_mapM_toList, Array.getD_eq_getD_getElem?, hc2, ht2, asAddr, loadVar, Ag.eq (t := ct) (b := true), run_sizeOf (t := ct) (z := z) (sz := sz) (bt := bt), run_loadCells hl hv hh]
end
end Go.Sl
/- What the walks of every seat use: lists of numbers, of truths, of structs, and of lists, in memory. -/
namespace Go.Proofs.YtfnalecnnmkgbaaDoor
open Go.Sl
variable {S : Nat → Prop} {w0 : World} {η : Heap}
abbrev ptr (b : Nat) : Value := .pointer (some ⟨b, 0, none⟩)
theorem drop_step {α : Type} {l : List α} {k : Nat} (h : k < l.length) : l.drop k = l[k] :: l.drop (k + 1) := List.drop_eq_getElem_cons h
theorem not_mem_succ {xs : List Int} {n : Int} {k : Nat} (hk : k < xs.length) (h : n ∉ xs.take k) (hne : xs[k] ≠ n) : n ∉ xs.take (k + 1) := by
  rw [List.take_succ_eq_append_getElem hk]
  simp only [List.mem_append, List.mem_singleton, not_or]
  exact ⟨h, fun e => hne e.symm⟩
theorem take_succ_eq {α : Type} {xs ys : List α} {k : Nat} (h1 : k < xs.length) (h2 : k < ys.length) (h : xs.take k = ys.take k) (he : xs[k] = ys[k]) : xs.take (k + 1) = ys.take (k + 1) := by
  rw [List.take_succ_eq_append_getElem h1, List.take_succ_eq_append_getElem h2, h, he]
theorem ne_of_getElem {α : Type} {xs ys : List α} {k : Nat} (h1 : k < xs.length) (h2 : k < ys.length) (he : xs[k] ≠ ys[k]) : xs ≠ ys := fun e => he (by subst e; rfl)
def rowC (n : Nat) (f : Nat → Bool) : List Value := (List.range n).map fun j => .bool (f j)
theorem rowC_len (n : Nat) (f : Nat → Bool) : (rowC n f).length = n := by simp [rowC]
theorem rowC_get {n : Nat} {f : Nat → Bool} {j : Nat} (h : j < n) : (rowC n f)[j]? = some (.bool (f j)) := by simp [rowC, h]
theorem rowC_congr {n : Nat} {f g : Nat → Bool} (h : ∀ j, j < n → f j = g j) : rowC n f = rowC n g := by
  unfold rowC; apply List.map_congr_left; intro j hj; rw [h j (by simpa using hj)]
theorem rowC_false (n : Nat) : List.replicate n (Value.bool false) = rowC n fun _ => false := by
  apply List.ext_getElem?; intro i; simp [rowC]
  by_cases h : i < n
  · rw [List.getElem?_replicate_of_lt h]; simp [h]
  · simp [h]
theorem rowC_set {n : Nat} {f g : Nat → Bool} {j : Nat} {v : Bool} (h : ∀ i, i < n → g i = if i = j then v else f i) : (rowC n f).toArray.setIfInBounds j (.bool v) = (rowC n g).toArray := by
  apply Array.ext'
  simp only [Array.toList_setIfInBounds]
  apply List.ext_getElem?
  intro i
  rw [List.getElem?_set]
  by_cases hi : i < n
  · rw [rowC_get hi, rowC_get hi, h i hi]
    by_cases hj : j = i
    · subst hj; simp [rowC_len, hi]
    · simp [hj, Ne.symm hj]
  · have h1 : (rowC n f)[i]? = none := by simp [rowC]; omega
    have h2 : (rowC n g)[i]? = none := by simp [rowC]; omega
    rw [h1, h2]
    by_cases hj : j = i
    · subst hj; simp [rowC_len, hi]
    · simp [hj]
theorem row_own {b : Nat} {cs : List Value} {e : TypeId} (h : [(b, Obj.cells cs.toArray e (0, 0))] ∈ η) : Row S w0 η (some ⟨b, 0, none⟩) cs :=
  ⟨fun _ => ⟨_, rfl, rfl⟩, fun i v hi => .own _ h cs.toArray e (0, 0) (by simp [sAt]) (by simpa [sAt] using hi) (by simp [sAt])⟩
theorem own_mem {b : Nat} {cs : Array Value} {e : TypeId} {fz : Nat × Nat} {off : Nat} {v : Value} (h : [(b, Obj.cells cs e fz)] ∈ η) (hc : cs[off]? = some v) : At S w0 η ⟨b, off, none⟩ v := .own _ h cs e fz (by simp) hc rfl
def intC (n : Nat) (f : Nat → Int) : List Value := (List.range n).map fun j => .int .i64 (f j)
theorem intC_len (n : Nat) (f : Nat → Int) : (intC n f).length = n := by simp [intC]
theorem intC_get {n : Nat} {f : Nat → Int} {j : Nat} (h : j < n) : (intC n f)[j]? = some (.int .i64 (f j)) := by simp [intC, h]
theorem intC_congr {n : Nat} {f g : Nat → Int} (h : ∀ j, j < n → f j = g j) : intC n f = intC n g := by
  unfold intC; apply List.map_congr_left; intro j hj; rw [h j (by simpa using hj)]
theorem intC_zero (n : Nat) : List.replicate n (Value.int .i64 0) = intC n fun _ => 0 := by
  apply List.ext_getElem?; intro i; simp only [intC, List.getElem?_map]
  by_cases h : i < n
  · rw [List.getElem?_replicate_of_lt h]; simp [h]
  · simp [h]
theorem intC_set {n : Nat} {f g : Nat → Int} {j : Nat} {v : Int} (h : ∀ i, i < n → g i = if i = j then v else f i) : (intC n f).toArray.setIfInBounds j (.int .i64 v) = (intC n g).toArray := by
  apply Array.ext'
  simp only [Array.toList_setIfInBounds]
  apply List.ext_getElem?
  intro i
  rw [List.getElem?_set]
  by_cases hi : i < n
  · rw [intC_get hi, intC_get hi, h i hi]
    by_cases hj : j = i
    · subst hj; simp [intC_len, hi]
    · simp [hj, Ne.symm hj]
  · have h1 : (intC n f)[i]? = none := by simp [intC]; omega
    have h2 : (intC n g)[i]? = none := by simp [intC]; omega
    rw [h1, h2]
    by_cases hj : j = i
    · subst hj; simp [intC_len, hi]
    · simp [hj]
/-- An owned list of n numbers. -/
abbrev iseg (b n : Nat) (f : Nat → Int) : Seg := [(b, .cells (intC n f).toArray 3 (0, 0))]
theorem iseg_at {b n j : Nat} {f : Nat → Int} (h : iseg b n f ∈ η) (hj : j < n) : At S w0 η (sAt (some ⟨b, 0, none⟩) (j * 1)) (.int .i64 (f j)) := by
  rw [Nat.mul_one]; exact (row_own h).cell j _ (intC_get hj)
theorem iseg_set {b n j k : Nat} {f g : Nat → Int} {v : Int} {r : Heap} (hk : k = j) (h : ∀ i, i < n → g i = if i = j then v else f i) : [(b, Obj.cells ((intC n f).toArray.setIfInBounds k (.int .i64 v)) 3 (0, 0))] :: r = iseg b n g :: r := by
  subst hk; rw [intC_set h]
theorem iseg_congr {b n : Nat} {f g : Nat → Int} {r : Heap} (h : ∀ i, i < n → f i = g i) : iseg b n f :: r = iseg b n g :: r := by rw [iseg, iseg, intC_congr h]
theorem hp_at {A : Heap} {s : Seg} {r : Heap} {i : Nat} (h : i = A.length) : (A ++ s :: r)[i]? = some s := by
  subst h; rw [List.getElem?_append_right (Nat.le_refl _)]; simp
theorem hp_set {A : Heap} {s s' : Seg} {r : Heap} {i : Nat} (h : i = A.length) : (A ++ s :: r).set i s' = A ++ s' :: r := by
  subst h; rw [List.set_append_right _ _ (Nat.le_refl _)]; simp
theorem ints1 (xs : List Int) : ∀ v ∈ ints xs, v.oneCell' = true := by intro v hv; obtain ⟨b, _, rfl⟩ := List.mem_map.1 hv; rfl
theorem intC_ints (n : Nat) (f : Nat → Int) : intC n f = ints ((List.range n).map f) := by simp [intC, ints, Function.comp_def]
theorem rowC1 (N : Nat) (G : Nat → Bool) : ∀ v ∈ rowC N G, v.oneCell' = true := by intro v hv; obtain ⟨b, _, rfl⟩ := List.mem_map.1 hv; rfl
theorem intC1 (N : Nat) (G : Nat → Int) : ∀ v ∈ intC N G, v.oneCell' = true := by intro v hv; obtain ⟨b, _, rfl⟩ := List.mem_map.1 hv; rfl
theorem _root_.Go.Sl.Row.bit {a : Option Addr} {n : Nat} {g : Nat → Bool} (h : Row S w0 η a (rowC n g)) {j : Nat} (hj : j < n) : At S w0 η (sAt a (j * 1)) (.bool (g j)) := by rw [Nat.mul_one]; exact h.cell j _ (rowC_get hj)
theorem _root_.Go.Sl.Row.bad {a : Option Addr} {n : Nat} {g : Nat → Bool} (h : Row S w0 η a (rowC n g)) {j : Nat} (hj : j < n) : ∃ ad, a = some ad ∧ ad.spot = none := h.adi (i := j) (by rw [rowC_len]; exact hj)
theorem _root_.Go.Sl.Row.none : Row S w0 η none [] := ⟨fun h => by simp at h, fun i v h => by simp at h⟩
/-- An owned list of n truths. -/
abbrev bseg (b n : Nat) (f : Nat → Bool) : Seg := [(b, .cells (rowC n f).toArray 4 (0, 0))]
theorem bseg_at {b n j : Nat} {f : Nat → Bool} (h : bseg b n f ∈ η) (hj : j < n) : At S w0 η (sAt (some ⟨b, 0, none⟩) (j * 1)) (.bool (f j)) := by
  rw [Nat.mul_one]; exact (row_own h).cell j _ (rowC_get hj)
theorem bseg_set {b n j k : Nat} {f g : Nat → Bool} {v : Bool} {r : Heap} (hk : k = j) (h : ∀ i, i < n → g i = if i = j then v else f i) : [(b, Obj.cells ((rowC n f).toArray.setIfInBounds k (.bool v)) 4 (0, 0))] :: r = bseg b n g :: r := by
  subst hk; rw [rowC_set h]
theorem bseg_congr {b n : Nat} {f g : Nat → Bool} {r : Heap} (h : ∀ i, i < n → f i = g i) : bseg b n f :: r = bseg b n g :: r := by rw [bseg, bseg, rowC_congr h]
/-- A list of k cells, made at once, is an owned list. -/
theorem osl_fresh {e : TypeId} {sz n b : Nat} {xs : List Value} (h : xs.length = n * sz) : OSl e sz (.slice (some ⟨b, 0, none⟩) n n) n xs [(b, .cells xs.toArray e (0, 0))] :=
  ⟨h, .inr ⟨b, n, xs.toArray, rfl, rfl, Nat.le_refl _, by simp [h], by simp [← h]⟩⟩
/-! Lists of structs. -/
theorem sAt_add (a : Option Addr) (k i : Nat) : (⟨(sAt a k).block, (sAt a k).off + i, none⟩ : Addr) = sAt a (k + i) := by simp [sAt, Nat.add_assoc]
theorem _root_.Go.Sl.Row.tab {α : Type} {k : Nat} {f : α → List Value} (hf : ∀ x, (f x).length = k) {a : Option Addr} {l : List α} (h : Row S w0 η a (l.flatMap f)) {i : Nat} (hi : i < l.length) (j : Nat) {v : Value} (hj : (f l[i])[j]? = some v) : At S w0 η (sAt a (i * k + j)) v :=
  h.cell _ _ (by
    have hj4 : j < k := by have := (List.getElem?_eq_some_iff.1 hj).1; rw [hf] at this; exact this
    rw [flat_get k f hf l i j hj4, List.getElem?_eq_getElem hi]; exact hj)
theorem _root_.Go.Sl.Row.tabA {α : Type} {k : Nat} {f : α → List Value} (hf : ∀ x, (f x).length = k) {a : Option Addr} {l : List α} (h : Row S w0 η a (l.flatMap f)) {i : Nat} (hi : i < l.length) : ∀ j v, (f l[i])[j]? = some v → At S w0 η ⟨(sAt a (i * k)).block, (sAt a (i * k)).off + j, none⟩ v := fun j v hj => by
  rw [sAt_add]; exact h.tab hf hi j hj
theorem _root_.Go.Sl.Row.tad {α : Type} {k : Nat} {f : α → List Value} (hf : ∀ x, (f x).length = k) (hk : 0 < k) {a : Option Addr} {l : List α} (h : Row S w0 η a (l.flatMap f)) {i : Nat} (hi : i < l.length) : ∃ ad, a = some ad ∧ ad.spot = none := h.ad (by
  cases l with
  | nil => simp at hi
  | cons r rs => simp only [List.flatMap_cons, List.length_append, hf]; omega)
/-! Lists of lists. -/
def Lists (S : Nat → Prop) (w0 : World) (η : Heap) (a : Option Addr) (ls : List (List Int)) : Prop :=
  ∃ ps : List (Option Addr × Nat), ps.length = ls.length ∧ Row S w0 η a (List.zipWith (fun (p : Option Addr × Nat) (l : List Int) => Value.slice p.1 l.length p.2) ps ls) ∧ ∀ i (h1 : i < ps.length) (h2 : i < ls.length), Row S w0 η ps[i].1 (ints ls[i])
theorem Lists.item {a : Option Addr} {ls : List (List Int)} (h : Lists S w0 η a ls) : ∃ f : Nat → Option Addr × Nat, (∀ i (hi : i < ls.length), At S w0 η (sAt a (i * 1)) (.slice (f i).1 ls[i].length (f i).2) ∧ Row S w0 η (f i).1 (ints ls[i])) ∧ (∀ i, i < ls.length → ∃ ad, a = some ad ∧ ad.spot = none) := by
  obtain ⟨ps, hl, hr, hi⟩ := h
  refine ⟨fun i => ps.getD i (none, 0), fun i h1 => ?_, fun i h1 => hr.adi (i := i) (by simp; omega)⟩
  have h2 : i < ps.length := by omega
  refine ⟨?_, ?_⟩
  · rw [Nat.mul_one]; exact hr.cell i _ (by simp [List.getElem?_zipWith, List.getD_eq_getElem?_getD, h1, h2])
  · have := hi i h2 h1; simpa [List.getD_eq_getElem?_getD, h2] using this
theorem Lists.none : Lists S w0 η none [] := ⟨[], rfl, ⟨fun h => by simp at h, fun i v h => by simp at h⟩, fun i h => by simp at h⟩
theorem Lists.up {η' : Heap} {a : Option Addr} {ls : List (List Int)} (h : Lists S w0 η a ls) (hs : ∀ x ∈ η, x ∈ η') : Lists S w0 η' a ls := by
  obtain ⟨ps, h1, h2, h3⟩ := h
  exact ⟨ps, h1, h2.up hs, fun i a b => (h3 i a b).up hs⟩
theorem Lists.frz {S' : Nat → Prop} {w1 : World} {ηr : Heap} {a : Option Addr} {ls : List (List Int)} (h : Lists S w0 ηr a ls) (hz : Frz S S' w0 w1 ηr) : Lists S' w1 [] a ls := by
  obtain ⟨ps, h1, h2, h3⟩ := h
  exact ⟨ps, h1, h2.frz hz, fun i a b => (h3 i a b).frz hz⟩
theorem Lists.old {S' : Nat → Prop} {w1 : World} {ηr : Heap} {a : Option Addr} {ls : List (List Int)} (h : Lists S w0 [] a ls) (hz : Frz S S' w0 w1 ηr) : Lists S' w1 [] a ls := by
  obtain ⟨ps, h1, h2, h3⟩ := h
  exact ⟨ps, h1, h2.old hz, fun i a b => (h3 i a b).old hz⟩
/-- An owned list of owned lists: the outer block, and each inner list with its block. -/
structure OLs (e : TypeId) (v : Value) (outs : List (Value × List Int × Seg)) (og : Seg) : Prop where
  o : OSl e 1 v outs.length (outs.map (·.1)) og
  i : ∀ t ∈ outs, OSl 3 1 t.1 t.2.1.length (ints t.2.1) t.2.2
theorem OLs.lists {e : TypeId} {a : Option Addr} {c : Nat} {outs : List (Value × List Int × Seg)} {og : Seg} (h : OLs e (.slice a outs.length c) outs og) {η : Heap} (h1 : og ∈ η) (h2 : ∀ t ∈ outs, t.2.2 ∈ η) : Lists S w0 η a (outs.map (·.2.1)) := by
  refine ⟨outs.map fun t => match t.1 with | .slice a _ c => (a, c) | _ => (Option.none, 0), by simp, ?_, ?_⟩
  · have hr : Row S w0 η a (outs.map (·.1)) := h.o.row h1
    have e : List.zipWith (fun (p : Option Addr × Nat) (l : List Int) => Value.slice p.1 l.length p.2) (outs.map fun t => match t.1 with | .slice a _ c => (a, c) | _ => (Option.none, 0)) (outs.map (·.2.1)) = outs.map (·.1) := by
      rw [List.zipWith_map, List.zipWith_self]
      apply List.map_congr_left
      intro t ht
      obtain ⟨a, cap, hv⟩ := (h.i t ht).form
      simp [hv]
    rw [e]; exact hr
  · intro i h3 h4
    have hi : i < outs.length := by simpa using h3
    have ho := h.i outs[i] (List.getElem_mem hi)
    obtain ⟨a, cap, hv⟩ := ho.form
    simp only [List.getElem_map, hv]
    rw [hv] at ho
    exact ho.row (h2 _ (List.getElem_mem hi))
/-- A function, turned at one place. -/
def upd {α : Type} (f : Nat → α) (j : Nat) (v : α) (i : Nat) : α := if i = j then v else f i
theorem upd_same {α : Type} (f : Nat → α) (j : Nat) (v : α) : upd f j v j = v := by simp [upd]
theorem upd_ne {α : Type} (f : Nat → α) {j i : Nat} (v : α) (h : i ≠ j) : upd f j v i = f i := by simp [upd, h]
/-! Owned lists of numbers that are written in place. -/
abbrev cseg (b : Nat) (cur : Array Value) : Seg := [(b, .cells cur 3 (0, 0))]
def OIs (b c n : Nat) (f : Nat → Int) (cur : Array Value) : Prop := OSl 3 1 (.slice (some ⟨b, 0, none⟩) n c) n (intC n f) (cseg b cur)
theorem OIs.of {a : Option Addr} {c n : Nat} {f : Nat → Int} {seg : Seg} (h : OSl 3 1 (.slice a n c) n (intC n f) seg) (hn : 0 < n) : ∃ b cur, a = some ⟨b, 0, none⟩ ∧ seg = cseg b cur ∧ OIs b c n f cur := by
  obtain ⟨g, cap, cur, hv, rfl, _⟩ := h.ex hn
  cases hv
  exact ⟨g, cur, rfl, rfl, h⟩
theorem OIs.at {b c n j : Nat} {f : Nat → Int} {cur : Array Value} (h : OIs b c n f cur) (hm : cseg b cur ∈ η) (hj : j < n) : At S w0 η (sAt (some ⟨b, 0, none⟩) (j * 1)) (.int .i64 (f j)) := by
  rw [Nat.mul_one]; exact (OSl.row h hm).cell j _ (intC_get hj)
theorem OIs.size {b c n : Nat} {f : Nat → Int} {cur : Array Value} (h : OIs b c n f cur) : n ≤ cur.size := by
  rcases h.2 with ⟨h0, _⟩ | ⟨g, cap, cur', hv, hs, hc, hz, _⟩
  · cases h0
  · simp only [cseg, List.cons.injEq, Prod.mk.injEq, Obj.cells.injEq, and_true] at hs
    obtain ⟨_, rfl⟩ := hs
    omega
theorem intC_upd {n j : Nat} {f : Nat → Int} {v : Int} : (intC n f).set j (.int .i64 v) = intC n (upd f j v) := by
  apply List.ext_getElem?
  intro i
  rw [List.getElem?_set]
  by_cases hi : i < n
  · rw [intC_get hi, intC_get hi, intC_len]
    unfold upd
    by_cases hj : j = i
    · subst hj; simp [hi]
    · rw [if_neg hj, if_neg (fun e => hj e.symm)]
  · have h1 : (intC n f)[i]? = Option.none := by simp [intC]; omega
    have h2 : (intC n (upd f j v))[i]? = Option.none := by simp [intC]; omega
    rw [h1, h2, intC_len]
    by_cases hj : j = i
    · subst hj; simp [hi]
    · rw [if_neg hj]
theorem OIs.put {b c n : Nat} {f : Nat → Int} {cur : Array Value} (h : OIs b c n f cur) (j : Nat) (v : Int) : OIs b c n (upd f j v) (cur.setIfInBounds j (.int .i64 v)) := by
  have := OSl.put (j := j) (u := .int .i64 v) h
  rw [intC_upd] at this; exact this
theorem OIs.congr {b c n : Nat} {f g : Nat → Int} {cur : Array Value} (h : OIs b c n f cur) (he : ∀ i, i < n → f i = g i) : OIs b c n g cur := by
  unfold OIs at h ⊢; rw [← intC_congr he]; exact h
theorem OIs.row {b c n : Nat} {f : Nat → Int} {cur : Array Value} (h : OIs b c n f cur) (hm : cseg b cur ∈ η) : Row S w0 η (some ⟨b, 0, Option.none⟩) (intC n f) := OSl.row h hm
theorem OIs.fresh {b n : Nat} {f : Nat → Int} : OIs b n n f (intC n f).toArray := osl_fresh (by simp [intC_len])
end Go.Proofs.YtfnalecnnmkgbaaDoor
/- Lists of lists by their headers. -/
namespace Go.Proofs.YtfnalecnnmkgbaaDoor
open Go.Sl
variable {S : Nat → Prop} {w0 : World} {η : Heap}
theorem mixed : Tryd.prog.follows .mixedOrders = true := by kernel_rfl
abbrev Tm := List Int
/-- A header: where the numbers lie, the numbers, and the room. -/
abbrev HL := Option Addr × List Int × Nat
def hc (p : HL) : Value := .slice p.1 p.2.1.length p.2.2
def tx (ps : List HL) : List Tm := ps.map (·.2.1)
theorem tx_len (ps : List HL) : (tx ps).length = ps.length := by simp [tx]
theorem tx_append (ps qs : List HL) : tx (ps ++ qs) = tx ps ++ tx qs := by simp [tx]
theorem tx_get {ps : List HL} {i : Nat} (h : i < ps.length) : (tx ps)[i]'(by rw [tx_len]; exact h) = ps[i].2.1 := by simp [tx]
structure LL (S : Nat → Prop) (w0 : World) (η : Heap) (a : Option Addr) (ps : List HL) : Prop where
  row : Row S w0 η a (ps.map hc)
  item : ∀ p ∈ ps, Row S w0 η p.1 (ints p.2.1)
theorem LL.at {a : Option Addr} {ps : List HL} (h : LL S w0 η a ps) {i : Nat} (hi : i < ps.length) : At S w0 η (sAt a (i * 1)) (hc ps[i]) := by
  rw [Nat.mul_one]; exact h.row.cell i _ (by simp [hi])
theorem LL.ad {a : Option Addr} {ps : List HL} (h : LL S w0 η a ps) {i : Nat} (hi : i < ps.length) : ∃ ad, a = some ad ∧ ad.spot = none := h.row.adi (i := i) (by simpa using hi)
theorem LL.it {a : Option Addr} {ps : List HL} (h : LL S w0 η a ps) {i : Nat} (hi : i < ps.length) : Row S w0 η ps[i].1 (ints ps[i].2.1) := h.item _ (List.getElem_mem hi)
theorem LL.up {η' : Heap} {a : Option Addr} {ps : List HL} (h : LL S w0 η a ps) (hs : ∀ x ∈ η, x ∈ η') : LL S w0 η' a ps := ⟨h.row.up hs, fun p hp => (h.item p hp).up hs⟩
theorem LL.ro {η' : Heap} {a : Option Addr} {ps : List HL} (h : LL S w0 [] a ps) : LL S w0 η' a ps := h.up (fun _ hx => by simp at hx)
theorem LL.frz {S' : Nat → Prop} {w1 : World} {ηr : Heap} {a : Option Addr} {ps : List HL} (h : LL S w0 ηr a ps) (hz : Frz S S' w0 w1 ηr) : LL S' w1 [] a ps := ⟨h.row.frz hz, fun p hp => (h.item p hp).frz hz⟩
theorem LL.old {S' : Nat → Prop} {w1 : World} {ηr : Heap} {a : Option Addr} {ps : List HL} (h : LL S w0 [] a ps) (hz : Frz S S' w0 w1 ηr) : LL S' w1 [] a ps := ⟨h.row.old hz, fun p hp => (h.item p hp).old hz⟩
theorem LL.thaw {S' : Nat → Prop} {w1 : World} {ηr η' : Heap} {a : Option Addr} {ps : List HL} (hb : ∀ η' a v, At S' w1 η' a v → At S w0 (ηr ++ η') a v) (h : LL S' w1 η' a ps) : LL S w0 (ηr ++ η') a ps := ⟨h.row.thaw hb, fun p hp => (h.item p hp).thaw hb⟩
theorem LL.none : LL S w0 η none [] := ⟨Row.none, fun p hp => by simp at hp⟩
theorem LL.part {a : Option Addr} {ps : List HL} (h : LL S w0 η a ps) {c i j : Nat} (hl : j ≤ ps.length) (hij : i ≤ j) (hc : j ≤ c) : LL S w0 η (if c = i then a else a.map (·.add (i * 1))) ((ps.drop i).take (j - i)) := by
  refine ⟨?_, fun p hp => h.item p (List.mem_of_mem_drop (List.mem_of_mem_take hp))⟩
  have := h.row.part (c := c) (i := i) (j := j) (sz := 1) (by simpa using hl) hij hc
  simpa only [Nat.mul_one, ← List.map_drop, ← List.map_take] using this
theorem LL.append {a b e : Option Addr} {ps qs : List HL} (h : LL S w0 η a ps) (h2 : LL S w0 η b qs) (hr : Row S w0 η e ((ps ++ qs).map hc)) : LL S w0 η e (ps ++ qs) :=
  ⟨hr, fun p hp => (List.mem_append.1 hp).elim (h.item p) (h2.item p)⟩
theorem hc1 (ps : List HL) : ∀ v ∈ ps.map hc, v.oneCell' = true := by intro v hv; obtain ⟨p, _, rfl⟩ := List.mem_map.1 hv; rfl
theorem tx_drop {ps : List HL} {k : Nat} (h : k < ps.length) : (tx ps).drop k = ps[k].2.1 :: (tx ps).drop (k + 1) := by rw [drop_step (by rw [tx_len]; exact h), tx_get h]
theorem tx_head {ps : List HL} (h : 0 < ps.length) : (tx ps).headD [] = ps[0].2.1 := by cases ps with | nil => simp at h | cons p r => simp [tx]
theorem ints_intC (xs : List Int) : ints xs = intC xs.length (fun i => xs.getD i 0) := by
  apply List.ext_getElem?
  intro i
  by_cases h : i < xs.length
  · rw [intC_get h]; simp [ints, h, List.getD_eq_getElem?_getD]
  · rw [List.getElem?_eq_none (by simpa using h), List.getElem?_eq_none (by rw [intC_len]; omega)]
/-- An owned list of headers, each with its own block. -/
structure OL (e : TypeId) (v : Value) (outs : List (HL × Seg)) (og : Seg) : Prop where
  o : OSl e 1 v outs.length (outs.map fun t => hc t.1) og
  i : ∀ t ∈ outs, OSl 3 1 (hc t.1) t.1.2.1.length (ints t.1.2.1) t.2
theorem OL.ll {e : TypeId} {a : Option Addr} {c : Nat} {outs : List (HL × Seg)} {og : Seg} (h : OL e (.slice a outs.length c) outs og) {η : Heap} (h1 : og ∈ η) (h2 : ∀ t ∈ outs, t.2 ∈ η) : LL S w0 η a (outs.map (·.1)) := by
  refine ⟨?_, fun p hp => ?_⟩
  · have := h.o.row (S := S) (w0 := w0) h1
    simpa [List.map_map, Function.comp_def] using this
  · obtain ⟨t, ht, rfl⟩ := List.mem_map.1 hp
    exact (h.i t ht).row (h2 t ht)
theorem osl_cap {e : TypeId} {sz n cap : Nat} {a : Option Addr} {xs : List Value} {seg : Seg} (h : OSl e sz (.slice a n cap) n xs seg) : n ≤ cap := by
  rcases h.2 with ⟨h0, hn, _⟩ | ⟨g, c2, cur, hv, _, hc, _⟩
  · omega
  · simp only [Value.slice.injEq, true_and] at hv; omega
theorem osl_empty {e : TypeId} {sz b : Nat} : OSl e sz (.slice (some ⟨b, 0, Option.none⟩) 0 0) 0 [] [(b, .cells #[] e (0, 0))] := ⟨by simp, .inr ⟨b, 0, #[], rfl, rfl, Nat.le_refl _, by simp, by simp⟩⟩
end Go.Proofs.YtfnalecnnmkgbaaDoor
/- Pairs found by trying: what the walks compute. -/
namespace Go.Proofs.YtfnalecnnmkgbaaDoor
open Go.Sl
/-- Who was tried; who is before one; who is next of one. -/
structure Mt where
  tried : Nat → Bool
  mate : Nat → Int
  nx : Nat → Int
def Mt.try' (s : Mt) (j : Nat) : Mt := ⟨upd s.tried j true, s.mate, s.nx⟩
def Mt.link (s : Mt) (i j : Nat) : Mt := ⟨s.tried, upd s.mate j (i : Int), upd s.nx i (j : Int)⟩
def afterL (E : Nat → Nat → Bool) (n i : Nat) : List Nat := (List.range n).filter fun j => E i j
theorem mem_afterL {E : Nat → Nat → Bool} {n i j : Nat} : j ∈ afterL E n i ↔ j < n ∧ E i j = true := by simp [afterL]
/-- One of some is found for i. -/
def augL (rec : Nat → Mt → Mt × Bool) (i : Nat) : List Nat → Mt → Mt × Bool
  | [], s => (s, false)
  | j :: r, s =>
    if s.tried j = true then augL rec i r s
    else if s.mate j < 0 then ((s.try' j).link i j, true)
    else if (rec (s.mate j).toNat (s.try' j)).2 = true then ((rec (s.mate j).toNat (s.try' j)).1.link i j, true)
    else augL rec i r (rec (s.mate j).toNat (s.try' j)).1
def aug (E : Nat → Nat → Bool) (n : Nat) : Nat → Nat → Mt → Mt × Bool
  | 0, _, s => (s, false)
  | f + 1, i, s => augL (aug E n f) i (afterL E n i) s
/-- How many are not tried. -/
def unt (n : Nat) (t : Nat → Bool) : Nat := (List.range n).countP fun j => !t j
theorem unt_mono {n : Nat} {t u : Nat → Bool} (h : ∀ j, j < n → t j = true → u j = true) : unt n u ≤ unt n t := by
  unfold unt
  refine List.countP_mono_left fun j hj hu => ?_
  have hj := List.mem_range.1 hj
  cases ht : t j with
  | false => rfl
  | true => rw [h j hj ht] at hu; cases hu
theorem unt_upd {n j : Nat} {t : Nat → Bool} (hj : j < n) (h : t j = false) : unt n (upd t j true) < unt n t := by
  have key : ∀ l : List Nat, l.Nodup → j ∈ l → l.countP (fun k => !upd t j true k) < l.countP fun k => !t k := by
    intro l
    induction l with
    | nil => intro _ hm; simp at hm
    | cons x l ih =>
      intro hnd hm
      have hm2 : ∀ k ∈ l, (!upd t j true k) = true → (!t k) = true := fun k _ hk => by
        unfold upd at hk; split at hk
        · simp at hk
        · exact hk
      by_cases e : x = j
      · have h1 := List.countP_mono_left hm2
        rw [List.countP_cons, List.countP_cons]
        have e1 : upd t j true x = true := by unfold upd; rw [if_pos e]
        rw [e1, e, h]; simp; exact Nat.lt_succ_of_le h1
      · have h1 := ih (List.nodup_cons.1 hnd).2 ((List.mem_cons.1 hm).resolve_left (Ne.symm e))
        rw [List.countP_cons, List.countP_cons]
        have e1 : upd t j true x = t x := by unfold upd; rw [if_neg e]
        rw [e1]; omega
  exact key _ List.nodup_range (List.mem_range.2 hj)
theorem unt_le (n : Nat) (t : Nat → Bool) : unt n t ≤ n := by unfold unt; exact Nat.le_trans List.countP_le_length (by simp)
/-- What holds of a state at all times. -/
structure MtOk (n : Nat) (s : Mt) : Prop where
  mate : ∀ j, j < n → -1 ≤ s.mate j ∧ s.mate j < n
  nx : ∀ i, i < n → -1 ≤ s.nx i ∧ s.nx i < n
theorem MtOk.try' {n j : Nat} {s : Mt} (h : MtOk n s) : MtOk n (s.try' j) := ⟨h.mate, h.nx⟩
theorem MtOk.link {n i j : Nat} {s : Mt} (h : MtOk n s) (hi : i < n) (hj : j < n) : MtOk n (s.link i j) :=
  ⟨fun k hk => by
    simp only [Mt.link]; unfold upd; split
    · omega
    · exact h.mate k hk,
   fun k hk => by
    simp only [Mt.link]; unfold upd; split
    · omega
    · exact h.nx k hk⟩
/-- What a search keeps. -/
def Keep (n : Nat) (s s' : Mt) : Prop := MtOk n s' ∧ ∀ j, j < n → s.tried j = true → s'.tried j = true
theorem augL_keep {rec : Nat → Mt → Mt × Bool} {n i : Nat} (hi : i < n) (hr : ∀ k s, k < n → MtOk n s → Keep n s (rec k s).1) : ∀ (l : List Nat) (s : Mt), (∀ j ∈ l, j < n) → MtOk n s → Keep n s (augL rec i l s).1
  | [], s, _, h => ⟨h, fun _ _ q => q⟩
  | j :: r, s, hl, h => by
    have hj := hl j List.mem_cons_self
    have hl2 : ∀ k ∈ r, k < n := fun k hk => hl k (List.mem_cons_of_mem _ hk)
    have ht : ∀ k, k < n → s.tried k = true → (s.try' j).tried k = true := fun k _ q => by
      show upd s.tried j true k = true; unfold upd; split
      · rfl
      · exact q
    unfold augL
    split
    · exact augL_keep hi hr r s hl2 h
    · split
      · exact ⟨h.try'.link hi hj, ht⟩
      · rename_i h1 h2
        have h3 := h.mate j hj
        have hk := hr (s.mate j).toNat (s.try' j) (by omega) h.try'
        split
        · exact ⟨hk.1.link hi hj, fun k a b => hk.2 k a (ht k a b)⟩
        · have h4 := augL_keep hi hr r _ hl2 hk.1
          exact ⟨h4.1, fun k a b => h4.2 k a (hk.2 k a (ht k a b))⟩
theorem aug_keep {E : Nat → Nat → Bool} {n : Nat} : ∀ (f i : Nat) (s : Mt), i < n → MtOk n s → Keep n s (aug E n f i s).1
  | 0, _, _s, _, h => ⟨h, fun _ _ q => q⟩
  | f + 1, _i, s, hi, h => augL_keep hi (fun k s hk hs => aug_keep f k s hk hs) _ s (fun _j hj => (mem_afterL.1 hj).1) h
/-- The state behind so many searches. -/
def runM (E : Nat → Nat → Bool) (n : Nat) : Nat → Mt
  | 0 => ⟨fun _ => false, fun _ => -1, fun _ => -1⟩
  | k + 1 => (aug E n (n + 1) k ⟨fun _ => false, (runM E n k).mate, (runM E n k).nx⟩).1
theorem runM_ok {E : Nat → Nat → Bool} {n : Nat} : ∀ {k : Nat}, k ≤ n → MtOk n (runM E n k)
  | 0, _ => ⟨fun _ _ => by show (-1 : Int) ≤ -1 ∧ (-1 : Int) < _; omega, fun _ _ => by show (-1 : Int) ≤ -1 ∧ (-1 : Int) < _; omega⟩
  | k + 1, h => (aug_keep (E := E) (n + 1) k ⟨fun _ => false, (runM E n k).mate, (runM E n k).nx⟩ (by omega) ⟨(runM_ok (k := k) (by omega)).mate, (runM_ok (k := k) (by omega)).nx⟩).1
/-- A chain, from one on. -/
def chainI (nx : Nat → Int) : Nat → Int → List Nat
  | 0, _ => []
  | f + 1, i => if i < 0 then [] else i.toNat :: chainI nx f (nx i.toNat)
/-- Who is reached. -/
structure Rs where
  here : Nat → Bool
  there : Nat → Bool
  ok : Bool
def rchL (rec : Nat → Rs → Rs) (mate : Nat → Int) : List Nat → Rs → Rs
  | [], s => s
  | j :: r, s => if s.there j = true then rchL rec mate r s
    else if mate j < 0 then ⟨s.here, upd s.there j true, false⟩
    else rchL rec mate r (rec (mate j).toNat ⟨s.here, upd s.there j true, s.ok⟩)
def rch (E : Nat → Nat → Bool) (n : Nat) (mate : Nat → Int) : Nat → Nat → Rs → Rs
  | 0, _, s => s
  | f + 1, i, s => if s.here i = true then s else rchL (rch E n mate f) mate (afterL E n i) ⟨upd s.here i true, s.there, s.ok⟩
end Go.Proofs.YtfnalecnnmkgbaaDoor
/- Pairs found by trying: what is found is the most, and what cannot be found shows why. -/
namespace Go.Proofs.YtfnalecnnmkgbaaDoor
open Go.Sl
/-- How many below a bound. -/
def cnt (n : Nat) (p : Nat → Bool) : Nat := (List.range n).countP p
theorem cnt_succ {n : Nat} {p : Nat → Bool} : cnt (n + 1) p = cnt n p + if p n = true then 1 else 0 := by
  unfold cnt
  rw [List.range_succ, List.countP_append, List.countP_singleton]
theorem cnt_congr {n : Nat} {p q : Nat → Bool} (h : ∀ i, i < n → p i = q i) : cnt n p = cnt n q := by
  unfold cnt
  refine List.countP_congr fun i hi => ?_
  rw [h i (List.mem_range.1 hi)]
theorem cnt_inj {K n : Nat} {p q : Nat → Bool} (f : Nat → Nat) (h : ∀ i, i < K → p i = true → f i < n ∧ q (f i) = true) (hj : ∀ i j, i < K → j < K → p i = true → p j = true → f i = f j → i = j) : cnt K p ≤ cnt n q := by
  unfold cnt
  rw [List.countP_eq_length_filter, List.countP_eq_length_filter]
  have hnd : (((List.range K).filter p).map f).Nodup := by
    refine List.pairwise_map.2 (List.Pairwise.imp_of_mem (fun {a b} ha hb hab e => ?_) (List.Pairwise.filter p List.nodup_range))
    have ha := List.mem_filter.1 ha
    have hb := List.mem_filter.1 hb
    exact hab (hj a b (List.mem_range.1 ha.1) (List.mem_range.1 hb.1) ha.2 hb.2 e)
  have := hnd.length_le_of_subset (l₂ := (List.range n).filter q) (fun y hy => by
    obtain ⟨a, ha, rfl⟩ := List.mem_map.1 hy
    have ha := List.mem_filter.1 ha
    have h2 := h a (List.mem_range.1 ha.1) ha.2
    exact List.mem_filter.2 ⟨List.mem_range.2 h2.1, h2.2⟩)
  simpa using this
theorem cnt_or {n : Nat} {p q : Nat → Bool} (h : ∀ i, i < n → p i = true → q i = false) : cnt n (fun i => p i || q i) = cnt n p + cnt n q := by
  induction n with
  | zero => rfl
  | succ n ih =>
    rw [cnt_succ, cnt_succ, cnt_succ, ih (fun i hi => h i (by omega))]
    have := h n (by omega)
    cases hp : p n <;> cases hq : q n <;> simp_all <;> omega
theorem cnt_not {n : Nat} {p : Nat → Bool} : cnt n (fun i => !p i) + cnt n p = n := by
  induction n with
  | zero => rfl
  | succ n ih =>
    rw [cnt_succ, cnt_succ]
    cases hp : p n <;> simp <;> omega
theorem cnt_le {n : Nat} {p : Nat → Bool} : cnt n p ≤ n := by have := cnt_not (n := n) (p := p); omega
theorem cnt_mono {n : Nat} {p q : Nat → Bool} (h : ∀ i, i < n → p i = true → q i = true) : cnt n p ≤ cnt n q :=
  cnt_inj id (fun i hi hp => ⟨hi, h i hi hp⟩) (fun _ _ _ _ _ _ e => e)
theorem cnt_len {n : Nat} {p : Nat → Bool} : ((List.range n).filter p).length = cnt n p := by unfold cnt; rw [List.countP_eq_length_filter]

section
variable {E : Nat → Nat → Bool} {n : Nat}
/-- Both sides of a state fit together. -/
structure Mat (E : Nat → Nat → Bool) (n : Nat) (s : Mt) : Prop where
  nm : ∀ i, 0 ≤ s.nx i → (s.nx i).toNat < n ∧ s.mate (s.nx i).toNat = i ∧ E i (s.nx i).toNat = true
  mn : ∀ j, j < n → 0 ≤ s.mate j → s.nx (s.mate j).toNat = j
/-- One more is found. -/
structure Found (E : Nat → Nat → Bool) (n i : Nat) (s s' : Mt) : Prop where
  nm : ∀ k, 0 ≤ s'.nx k → (s'.nx k).toNat < n ∧ s'.mate (s'.nx k).toNat = k ∧ E k (s'.nx k).toNat = true
  mn : ∀ j, j < n → 0 ≤ s'.mate j → s'.nx (s'.mate j).toNat = j ∨ (s'.mate j = i ∧ s.nx i = j)
  new : 0 ≤ s'.nx i
  fresh : s.tried (s'.nx i).toNat = false
  same : ∀ k, k ≠ i → (0 ≤ s'.nx k ↔ 0 ≤ s.nx k)
  mt : ∀ j, s.tried j = true → s'.mate j = s.mate j
  nx : ∀ k, k ≠ i → 0 ≤ s.nx k → s.tried (s.nx k).toNat = true → s'.nx k = s.nx k
/-- None is found: who was tried, and why. -/
structure Lost (E : Nat → Nat → Bool) (n : Nat) (l : List Nat) (s s' : Mt) : Prop where
  mate : s'.mate = s.mate
  nx : s'.nx = s.nx
  mono : ∀ j, s.tried j = true → s'.tried j = true
  all : ∀ j ∈ l, s'.tried j = true
  more : ∀ j, j < n → s'.tried j = true → s.tried j = true ∨ (0 ≤ s.mate j ∧ ∀ k, k < n → E (s.mate j).toNat k = true → s'.tried k = true)
theorem Lost.trans {l1 l2 : List Nat} {s s1 s' : Mt} (h1 : Lost E n l1 s s1) (h2 : Lost E n l2 s1 s') : Lost E n (l1 ++ l2) s s' :=
  ⟨h2.mate.trans h1.mate, h2.nx.trans h1.nx, fun j h => h2.mono j (h1.mono j h), fun j hj => by
    rcases List.mem_append.1 hj with h | h
    · exact h2.mono j (h1.all j h)
    · exact h2.all j h,
   fun j hj ht => by
    rcases h2.more j hj ht with h | ⟨h, q⟩
    · rcases h1.more j hj h with h | ⟨h, q⟩
      · exact .inl h
      · exact .inr ⟨h, fun k hk he => h2.mono k (q k hk he)⟩
    · rw [h1.mate] at h q
      exact .inr ⟨h, q⟩⟩
theorem Found.of_lost {i : Nat} {l : List Nat} {s s1 s' : Mt} (hl : Lost E n l s s1) (h : Found E n i s1 s') : Found E n i s s' :=
  ⟨h.nm, fun j hj h0 => by have := h.mn j hj h0; rw [hl.nx] at this; exact this, h.new,
   (by
    cases e : s.tried (s'.nx i).toNat with
    | false => rfl
    | true => have := hl.mono _ e; rw [h.fresh] at this; cases this),
   fun k hk => by rw [h.same k hk, hl.nx],
   fun j hj => by rw [h.mt j (hl.mono j hj), hl.mate],
   fun k hk h0 ht => by rw [h.nx k hk (by rw [hl.nx]; exact h0) (by rw [hl.nx]; exact hl.mono _ ht), hl.nx]⟩
theorem Lost.mat {l : List Nat} {s s1 : Mt} (hl : Lost E n l s s1) (h : Mat E n s) : Mat E n s1 :=
  ⟨fun i h0 => by rw [hl.nx] at h0 ⊢; rw [hl.mate]; exact h.nm i h0, fun j hj h0 => by rw [hl.mate] at h0 ⊢; rw [hl.nx]; exact h.mn j hj h0⟩
theorem link_nx {s : Mt} {i j k : Nat} : (s.link i j).nx k = if k = i then (j : Int) else s.nx k := rfl
theorem link_mate {s : Mt} {i j k : Nat} : (s.link i j).mate k = if k = j then (i : Int) else s.mate k := rfl
theorem found_free {s : Mt} {i j : Nat} (hm : Mat E n s) (hj : j < n) (he : E i j = true) (ht : s.tried j = false) (h0 : s.mate j < 0) : Found E n i s ((s.try' j).link i j) where
  nm := fun k hk => by
    rw [link_nx] at hk ⊢
    by_cases e : k = i
    · rw [if_pos e, link_mate]; subst e; simpa using ⟨hj, he⟩
    · rw [if_neg e] at hk ⊢
      have h1 := hm.nm k hk
      rw [link_mate, if_neg (fun e2 => by
        have h2 := h1.2.1; have e2 : (s.nx k).toNat = j := e2; rw [e2] at h2; omega)]
      exact h1
  mn := fun k hk hk0 => by
    rw [link_mate] at hk0 ⊢
    by_cases e : k = j
    · left; rw [if_pos e, link_nx]; subst e; simp
    · rw [if_neg e] at hk0 ⊢
      have h1 := hm.mn k hk hk0
      have hk0 : 0 ≤ s.mate k := hk0
      by_cases e2 : (s.mate k).toNat = i
      · right
        rw [e2] at h1
        exact ⟨by show s.mate k = i; omega, h1⟩
      · left
        show (if (s.mate k).toNat = i then (j : Int) else s.nx (s.mate k).toNat) = k
        rw [if_neg e2]; exact h1
  new := by rw [link_nx, if_pos rfl]; omega
  fresh := by rw [link_nx, if_pos rfl]; exact ht
  same := fun k hk => by rw [link_nx, if_neg hk]; rfl
  mt := fun k hk => by rw [link_mate, if_neg (fun e => by rw [e, ht] at hk; cases hk)]; rfl
  nx := fun k hk _ _ => by rw [link_nx, if_neg hk]; rfl
theorem tried_try {s : Mt} {j k : Nat} : (s.try' j).tried k = if k = j then true else s.tried k := rfl
theorem tried_mono {s : Mt} {j k : Nat} (h : s.tried k = true) : (s.try' j).tried k = true := by rw [tried_try]; split <;> simp [*]
theorem found_step {s s1 : Mt} {i j : Nat} (hm : Mat E n s) (hi : 0 ≤ s.nx i → s.tried (s.nx i).toNat = true) (hj : j < n) (he : E i j = true) (ht : s.tried j = false) (h0 : 0 ≤ s.mate j) (h : Found E n (s.mate j).toNat (s.try' j) s1) : Found E n i s (s1.link i j) := by
  have hjt : (s.try' j).tried j = true := by rw [tried_try, if_pos rfl]
  have hmj : s1.mate j = s.mate j := h.mt j hjt
  have hnj : s.nx (s.mate j).toNat = j := hm.mn j hj h0
  have hii : i ≠ (s.mate j).toNat := fun e => by
    have h1 := hi (by rw [e, hnj]; omega)
    rw [e, hnj] at h1
    rw [show ((j : Nat) : Int).toNat = j by omega, ht] at h1; cases h1
  have hfree : ∀ k, 0 ≤ s1.nx k → (s1.nx k).toNat ≠ j := fun k hk e => by
    have h1 := h.nm k hk
    rw [e, hmj] at h1
    have e2 : k = (s.mate j).toNat := by omega
    have h2 := h.fresh
    rw [← e2, e, hjt] at h2; cases h2
  exact {
    nm := fun k hk => by
      rw [link_nx] at hk ⊢
      by_cases e : k = i
      · rw [if_pos e, link_mate]; subst e; simpa using ⟨hj, he⟩
      · rw [if_neg e] at hk ⊢
        rw [link_mate, if_neg (hfree k hk)]
        exact h.nm k hk
    mn := fun k hk hk0 => by
      rw [link_mate] at hk0 ⊢
      by_cases e : k = j
      · left; rw [if_pos e, link_nx]; subst e; simp
      · rw [if_neg e] at hk0 ⊢
        have h1 : s1.nx (s1.mate k).toNat = k := by
          rcases h.mn k hk hk0 with h1 | ⟨_, h1⟩
          · exact h1
          · have h1 : s.nx (s.mate j).toNat = k := h1
            rw [hnj] at h1; omega
        by_cases e2 : (s1.mate k).toNat = i
        · right
          rw [e2] at h1
          refine ⟨by omega, ?_⟩
          have h3 : 0 ≤ s.nx i := (h.same i hii).1 (by omega)
          exact (h.nx i hii h3 (tried_mono (hi h3))).symm.trans h1
        · left
          rw [link_nx, if_neg e2]; exact h1
    new := by rw [link_nx, if_pos rfl]; omega
    fresh := by rw [link_nx, if_pos rfl]; exact ht
    same := fun k hk => by
      rw [link_nx, if_neg hk]
      by_cases e : k = (s.mate j).toNat
      · subst e
        exact ⟨fun _ => by rw [hnj]; omega, fun _ => h.new⟩
      · exact h.same k e
    mt := fun k hk => by
      rw [link_mate, if_neg (fun e => by rw [e, ht] at hk; cases hk)]
      exact h.mt k (tried_mono hk)
    nx := fun k hk hk0 hkt => by
      rw [link_nx, if_neg hk]
      refine h.nx k (fun e => ?_) hk0 (tried_mono hkt)
      rw [e, hnj, show ((j : Nat) : Int).toNat = j by omega, ht] at hkt; cases hkt }
theorem lost_step {s s1 : Mt} {j : Nat} (h0 : 0 ≤ s.mate j) (h : Lost E n (afterL E n (s.mate j).toNat) (s.try' j) s1) : Lost E n [j] s s1 where
  mate := h.mate
  nx := h.nx
  mono := fun k hk => h.mono k (tried_mono hk)
  all := fun k hk => by rw [List.mem_singleton.1 hk]; exact h.mono j (by rw [tried_try, if_pos rfl])
  more := fun k hk hkt => by
    rcases h.more k hk hkt with h1 | h1
    · rw [tried_try] at h1
      by_cases e : k = j
      · right; subst e
        exact ⟨h0, fun k2 hk2 he => h.all k2 (mem_afterL.2 ⟨hk2, he⟩)⟩
      · rw [if_neg e] at h1; exact .inl h1
    · exact .inr h1
theorem unt_lost {l : List Nat} {s s1 : Mt} (h : Lost E n l s s1) : unt n s1.tried ≤ unt n s.tried := unt_mono fun j _ hj => h.mono j hj
theorem augL_spec {rec : Nat → Mt → Mt × Bool} {i f : Nat} (hr : ∀ k s, unt n s.tried < f → Mat E n s → (0 ≤ s.nx k → s.tried (s.nx k).toNat = true) → ((rec k s).2 = true → Found E n k s (rec k s).1) ∧ ((rec k s).2 = false → Lost E n (afterL E n k) s (rec k s).1)) :
    ∀ (l : List Nat) (s : Mt), (∀ j ∈ l, j < n ∧ E i j = true) → unt n s.tried < f + 1 → Mat E n s → (0 ≤ s.nx i → s.tried (s.nx i).toNat = true) → ((augL rec i l s).2 = true → Found E n i s (augL rec i l s).1) ∧ ((augL rec i l s).2 = false → Lost E n l s (augL rec i l s).1)
  | [], s, _, _, _, _ => ⟨fun h => by simp [augL] at h, fun _ => ⟨rfl, rfl, fun _ h => h, fun _ h => by simp at h, fun _ _ h => .inl h⟩⟩
  | j :: r, s, hl, hf, hm, hi => by
    have hj := hl j List.mem_cons_self
    have hl2 : ∀ k ∈ r, k < n ∧ E i k = true := fun k hk => hl k (List.mem_cons_of_mem _ hk)
    unfold augL
    split
    · rename_i ht
      have ih := augL_spec hr r s hl2 hf hm hi
      have h1 : Lost E n [j] s s := ⟨rfl, rfl, fun _ h => h, fun k hk => by rw [List.mem_singleton.1 hk]; exact ht, fun _ _ h => .inl h⟩
      exact ⟨ih.1, fun h => h1.trans (ih.2 h)⟩
    · rename_i ht
      have ht : s.tried j = false := by simpa using ht
      split
      · rename_i h0
        exact ⟨fun _ => found_free hm hj.1 hj.2 ht h0, fun h => by cases h⟩
      · rename_i h0
        have h0 : 0 ≤ s.mate j := by omega
        have hnj := hm.mn j hj.1 h0
        have hrec := hr (s.mate j).toNat (s.try' j) (by have := unt_upd hj.1 ht; show unt n (upd s.tried j true) < f; omega) ⟨hm.nm, hm.mn⟩ (fun _ => by
          show (s.try' j).tried (s.nx (s.mate j).toNat).toNat = true
          rw [hnj, tried_try, if_pos (by omega)])
        split
        · rename_i hb
          exact ⟨fun _ => found_step hm hi hj.1 hj.2 ht h0 (hrec.1 hb), fun h => by cases h⟩
        · rename_i hb
          have h1 := lost_step h0 (hrec.2 (by simpa using hb))
          have ih := augL_spec hr r _ hl2 (Nat.lt_of_le_of_lt (unt_lost h1) hf) (h1.mat hm) (fun h => by rw [h1.nx] at h ⊢; exact h1.mono _ (hi h))
          exact ⟨fun h => (ih.1 h).of_lost h1, fun h => h1.trans (ih.2 h)⟩
theorem aug_spec : ∀ (f i : Nat) (s : Mt), unt n s.tried < f → Mat E n s → (0 ≤ s.nx i → s.tried (s.nx i).toNat = true) → ((aug E n f i s).2 = true → Found E n i s (aug E n f i s).1) ∧ ((aug E n f i s).2 = false → Lost E n (afterL E n i) s (aug E n f i s).1)
  | 0, _, _, h, _, _ => by omega
  | f + 1, i, s, hf, hm, hi => augL_spec (rec := aug E n f) (f := f) (fun k s h1 h2 h3 => aug_spec f k s h1 h2 h3) _ s (fun _ hj => mem_afterL.1 hj) hf hm hi

/-! What is shut stays so. -/
structure Shut (E : Nat → Nat → Bool) (n : Nat) (A T : Nat → Bool) (mate : Nat → Int) : Prop where
  out : ∀ i j, A i = true → j < n → E i j = true → T j = true
  back : ∀ j, j < n → T j = true → 0 ≤ mate j ∧ A (mate j).toNat = true
theorem augL_shut {A T : Nat → Bool} {rec : Nat → Mt → Mt × Bool} {i : Nat} (hr : ∀ k s, Shut E n A T s.mate → ((rec k s).2 = true → A k = false ∧ ∀ j, j < n → T j = true → (rec k s).1.mate j = s.mate j) ∧ ((rec k s).2 = false → (rec k s).1.mate = s.mate)) :
    ∀ (l : List Nat) (s : Mt), (∀ j ∈ l, j < n ∧ E i j = true) → Shut E n A T s.mate → ((augL rec i l s).2 = true → A i = false ∧ ∀ j, j < n → T j = true → (augL rec i l s).1.mate j = s.mate j) ∧ ((augL rec i l s).2 = false → (augL rec i l s).1.mate = s.mate)
  | [], s, _, _ => ⟨fun h => by simp [augL] at h, fun _ => rfl⟩
  | j :: r, s, hl, hs => by
    have hj := hl j List.mem_cons_self
    have hl2 : ∀ k ∈ r, k < n ∧ E i k = true := fun k hk => hl k (List.mem_cons_of_mem _ hk)
    unfold augL
    split
    · exact augL_shut hr r s hl2 hs
    · split
      · rename_i h0
        have hT : T j = false := by
          cases e : T j with
          | false => rfl
          | true => have := (hs.back j hj.1 e).1; omega
        refine ⟨fun _ => ⟨?_, fun k hk hkT => ?_⟩, fun h => by cases h⟩
        · cases e : A i with
          | false => rfl
          | true => have := hs.out i j e hj.1 hj.2; rw [hT] at this; cases this
        · show upd s.mate j (i : Int) k = s.mate k
          exact upd_ne _ _ (fun e => by rw [e, hT] at hkT; cases hkT)
      · rename_i h0
        have hrec := hr (s.mate j).toNat (s.try' j) hs
        split
        · rename_i hb
          have h1 := hrec.1 hb
          have hT : T j = false := by
            cases e : T j with
            | false => rfl
            | true => have := (hs.back j hj.1 e).2; rw [h1.1] at this; cases this
          refine ⟨fun _ => ⟨?_, fun k hk hkT => ?_⟩, fun h => by cases h⟩
          · cases e : A i with
            | false => rfl
            | true => have := hs.out i j e hj.1 hj.2; rw [hT] at this; cases this
          · show upd _ j (i : Int) k = s.mate k
            rw [upd_ne _ _ (fun e => by rw [e, hT] at hkT; cases hkT)]
            exact h1.2 k hk hkT
        · rename_i hb
          have h1 := hrec.2 (by simpa using hb)
          have h1 : (rec (s.mate j).toNat (s.try' j)).1.mate = s.mate := h1
          have ih := augL_shut hr r (rec (s.mate j).toNat (s.try' j)).1 hl2 (by rw [h1]; exact hs)
          rw [h1] at ih; exact ih
theorem aug_shut {A T : Nat → Bool} : ∀ (f i : Nat) (s : Mt), Shut E n A T s.mate → ((aug E n f i s).2 = true → A i = false ∧ ∀ j, j < n → T j = true → (aug E n f i s).1.mate j = s.mate j) ∧ ((aug E n f i s).2 = false → (aug E n f i s).1.mate = s.mate)
  | 0, _, _, _ => ⟨fun h => by simp [aug] at h, fun _ => rfl⟩
  | f + 1, i, s, hs => augL_shut (rec := aug E n f) (fun k s h => aug_shut f k s h) _ s (fun _ hj => mem_afterL.1 hj) hs

/-! Behind so many searches. -/
/-- Those that have none, and those to which ways from these lead. -/
def sideA (k n : Nat) (T : Nat → Bool) (s : Mt) (i : Nat) : Bool := (decide (i < k) && decide (s.nx i < 0)) || (List.range n).any fun j => T j && decide (s.mate j = i)
structure Run (E : Nat → Nat → Bool) (n k : Nat) (s : Mt) (T : Nat → Bool) : Prop where
  mat : Mat E n s
  lo : ∀ i, k ≤ i → s.nx i < 0
  shut : Shut E n (sideA k n T s) T s.mate
theorem sideA_free {k n : Nat} {T : Nat → Bool} {s : Mt} {i : Nat} (h : i < k) (h0 : s.nx i < 0) : sideA k n T s i = true := by
  unfold sideA; rw [decide_eq_true h, decide_eq_true h0]; rfl
theorem sideA_mate {k n : Nat} {T : Nat → Bool} {s : Mt} {i j : Nat} (hj : j < n) (hT : T j = true) (h : s.mate j = i) : sideA k n T s i = true := by
  unfold sideA
  rw [Bool.or_eq_true]; right
  exact List.any_eq_true.2 ⟨j, List.mem_range.2 hj, by rw [hT, decide_eq_true h]; rfl⟩
theorem sideA_cases {k n : Nat} {T : Nat → Bool} {s : Mt} {i : Nat} (h : sideA k n T s i = true) : (i < k ∧ s.nx i < 0) ∨ ∃ j, j < n ∧ T j = true ∧ s.mate j = i := by
  unfold sideA at h
  rw [Bool.or_eq_true] at h
  rcases h with h | h
  · rw [Bool.and_eq_true] at h
    exact .inl ⟨of_decide_eq_true h.1, of_decide_eq_true h.2⟩
  · obtain ⟨j, hj, h⟩ := List.any_eq_true.1 h
    rw [Bool.and_eq_true] at h
    exact .inr ⟨j, List.mem_range.1 hj, h.1, of_decide_eq_true h.2⟩
def stM (E : Nat → Nat → Bool) (n k : Nat) : Mt := ⟨fun _ => false, (runM E n k).mate, (runM E n k).nx⟩
/-- The search for the next one finds one. -/
def okM (E : Nat → Nat → Bool) (n k : Nat) : Bool := (aug E n (n + 1) k (stM E n k)).2
theorem runM_step {k : Nat} : runM E n (k + 1) = (aug E n (n + 1) k (stM E n k)).1 := rfl
theorem run_step {k : Nat} {T : Nat → Bool} (h : Run E n k (runM E n k) T) : (∃ T', Run E n (k + 1) (runM E n (k + 1)) T') ∧ (okM E n k = decide (0 ≤ (runM E n (k + 1)).nx k)) ∧ (∀ i, i < k → (0 ≤ (runM E n (k + 1)).nx i ↔ 0 ≤ (runM E n k).nx i)) := by
  have hk := h.lo k (Nat.le_refl _)
  have hsp := aug_spec (E := E) (n := n) (n + 1) k (stM E n k) (Nat.lt_succ_of_le (unt_le _ _)) ⟨h.mat.nm, h.mat.mn⟩ (fun h0 => by have h0 : 0 ≤ (runM E n k).nx k := h0; omega)
  have hsh := aug_shut (E := E) (n := n) (n + 1) k (stM E n k) h.shut
  rw [runM_step]
  unfold okM
  cases hb : (aug E n (n + 1) k (stM E n k)).2 with
  | true =>
    have hF := hsp.1 hb
    have hS := (hsh.1 hb).2
    refine ⟨⟨T, ⟨⟨hF.nm, fun j hj h0 => ?_⟩, fun i hi => ?_, ⟨fun i j hA hj he => ?_, fun j hj hT => ?_⟩⟩⟩, ?_, fun i hi => hF.same i (by omega)⟩
    · rcases hF.mn j hj h0 with q | ⟨_, q⟩
      · exact q
      · have q : (runM E n k).nx k = j := q; omega
    · have h1 := hF.same i (by omega)
      have h2 := h.lo i (by omega)
      have h1 : _ ↔ 0 ≤ (runM E n k).nx i := h1
      omega
    · rcases sideA_cases hA with ⟨h1, h2⟩ | ⟨j2, hj2, hT2, h2⟩
      · have hne : i ≠ k := fun e => by subst e; have := hF.new; omega
        have h3 : _ ↔ 0 ≤ (runM E n k).nx i := hF.same i hne
        exact h.shut.out i j (sideA_free (by omega) (by omega)) hj he
      · rw [hS j2 hj2 hT2] at h2
        exact h.shut.out i j (sideA_mate hj2 hT2 h2) hj he
    · rw [hS j hj hT]
      have h1 := h.shut.back j hj hT
      refine ⟨h1.1, sideA_mate hj hT ?_⟩
      rw [hS j hj hT]
      exact (Int.toNat_of_nonneg h1.1).symm
    · exact (decide_eq_true hF.new).symm
  | false =>
    have hL := hsp.2 hb
    have hmt : (aug E n (n + 1) k (stM E n k)).1.mate = (runM E n k).mate := hL.mate
    have hnx : (aug E n (n + 1) k (stM E n k)).1.nx = (runM E n k).nx := hL.nx
    have hmore : ∀ j, j < n → (aug E n (n + 1) k (stM E n k)).1.tried j = true → 0 ≤ (runM E n k).mate j ∧ ∀ k2, k2 < n → E ((runM E n k).mate j).toNat k2 = true → (aug E n (n + 1) k (stM E n k)).1.tried k2 = true := fun j hj ht => by
      rcases hL.more j hj ht with q | q
      · cases q
      · exact q
    refine ⟨⟨fun j => T j || (aug E n (n + 1) k (stM E n k)).1.tried j, ⟨hL.mat ⟨h.mat.nm, h.mat.mn⟩, fun i hi => by rw [hnx]; exact h.lo i (by omega), ⟨fun i j hA hj he => ?_, fun j hj hT => ?_⟩⟩⟩, ?_, fun i _ => by rw [hnx]⟩
    · rcases sideA_cases hA with ⟨h1, h2⟩ | ⟨j2, hj2, hT2, h2⟩
      · rw [hnx] at h2
        by_cases e : i = k
        · subst e
          rw [hL.all j (mem_afterL.2 ⟨hj, he⟩), Bool.or_true]
        · rw [h.shut.out i j (sideA_free (by omega) h2) hj he, Bool.true_or]
      · rw [hmt] at h2
        rcases Bool.or_eq_true _ _ ▸ hT2 with q | q
        · rw [h.shut.out i j (sideA_mate hj2 q h2) hj he, Bool.true_or]
        · have h3 := (hmore j2 hj2 q).2 j hj (by rw [h2]; simpa using he)
          rw [h3, Bool.or_true]
    · have h0 : 0 ≤ (runM E n k).mate j := by
        rcases Bool.or_eq_true _ _ ▸ hT with q | q
        · exact (h.shut.back j hj q).1
        · exact (hmore j hj q).1
      rw [hmt]
      exact ⟨h0, sideA_mate hj hT (by rw [hmt]; omega)⟩
    · rw [hnx]; exact (decide_eq_false (by omega)).symm
theorem run_all : ∀ k, ∃ T, Run E n k (runM E n k) T
  | 0 => ⟨fun _ => false, ⟨⟨fun i h => by simp [runM] at h, fun j _ h => by simp [runM] at h⟩, fun i _ => by show (-1 : Int) < 0; omega, ⟨fun i j hA _ _ => (by
      rcases sideA_cases hA with ⟨h, _⟩ | ⟨_, _, h, _⟩
      · omega
      · cases h), fun j _ h => by cases h⟩⟩⟩
  | k + 1 => by
    obtain ⟨T, h⟩ := run_all k
    exact (run_step h).1
theorem runM_mat (k : Nat) : Mat E n (runM E n k) := by obtain ⟨_, h⟩ := run_all (E := E) (n := n) k; exact h.mat
theorem runM_lo (k : Nat) {i : Nat} (hi : k ≤ i) : (runM E n k).nx i < 0 := by obtain ⟨_, h⟩ := run_all (E := E) (n := n) k; exact h.lo i hi
theorem okM_nx {k i : Nat} (hi : i < k) : okM E n i = decide (0 ≤ (runM E n k).nx i) := by
  induction k with
  | zero => omega
  | succ k ih =>
    obtain ⟨T, h⟩ := run_all (E := E) (n := n) k
    obtain ⟨_, h1, h2⟩ := run_step h
    by_cases e : i = k
    · subst e; exact h1
    · rw [ih (by omega)]
      have h3 := h2 i (by omega)
      by_cases h4 : 0 ≤ (runM E n k).nx i
      · rw [decide_eq_true h4, decide_eq_true (h3.2 h4)]
      · rw [decide_eq_false h4, decide_eq_false (fun q => h4 (h3.1 q))]
/-- How many searches find one. -/
def numM (E : Nat → Nat → Bool) (n k : Nat) : Nat := cnt k (okM E n)
theorem numM_nx {k : Nat} : numM E n k = cnt k fun i => decide (0 ≤ (runM E n k).nx i) := cnt_congr fun _ hi => okM_nx hi
/-- As many are taken on one side as on the other one. -/
theorem numM_mate {k : Nat} : numM E n k = cnt n fun j => decide (0 ≤ (runM E n k).mate j) := by
  have hm := runM_mat (E := E) (n := n) k
  rw [numM_nx]
  refine Nat.le_antisymm (cnt_inj (fun i => ((runM E n k).nx i).toNat) (fun i hi hp => ?_) (fun i j hi hj hp hq e => ?_)) (cnt_inj (fun j => ((runM E n k).mate j).toNat) (fun j hj hp => ?_) (fun i j hi hj hp hq e => ?_))
  · have h1 := hm.nm i (of_decide_eq_true hp)
    exact ⟨h1.1, decide_eq_true (by rw [h1.2.1]; omega)⟩
  · have h1 := (hm.nm i (of_decide_eq_true hp)).2.1
    have h2 := (hm.nm j (of_decide_eq_true hq)).2.1
    rw [e, h2] at h1; omega
  · have h0 := of_decide_eq_true hp
    have h1 := hm.mn j hj h0
    refine ⟨Nat.lt_of_not_le fun hle => ?_, decide_eq_true (by rw [h1]; omega)⟩
    have := runM_lo (E := E) (n := n) k hle
    omega
  · have h1 := hm.mn i hi (of_decide_eq_true hp)
    have h2 := hm.mn j hj (of_decide_eq_true hq)
    rw [e, h2] at h1; omega
/-- Pairs are no more than what covers them. -/
theorem cover_le {K : Nat} {g : Nat → Int} {CL CR : Nat → Bool} (h : ∀ i, i < K → 0 ≤ g i → (g i).toNat < n ∧ (CL i = true ∨ CR (g i).toNat = true)) (hj : ∀ i j, i < K → j < K → 0 ≤ g i → g i = g j → i = j) : (cnt K fun i => decide (0 ≤ g i)) ≤ cnt K CL + cnt n CR := by
  have h1 : (cnt K fun i => decide (0 ≤ g i)) = cnt K fun i => (decide (0 ≤ g i) && CL i) || (decide (0 ≤ g i) && !CL i) := cnt_congr fun i _ => by cases CL i <;> simp
  rw [h1, cnt_or (fun i _ => by cases CL i <;> simp)]
  refine Nat.add_le_add (cnt_mono fun i _ hp => (Bool.and_eq_true_iff.1 hp).2) (cnt_inj (fun i => (g i).toNat) (fun i hi hp => ?_) (fun i j hi hj2 hp hq e => ?_))
  · obtain ⟨a, b⟩ := Bool.and_eq_true_iff.1 hp
    obtain ⟨c, d⟩ := h i hi (of_decide_eq_true a)
    refine ⟨c, ?_⟩
    rcases d with d | d
    · rw [d] at b; cases b
    · exact d
  · have a := of_decide_eq_true (Bool.and_eq_true_iff.1 hp).1
    have b := of_decide_eq_true (Bool.and_eq_true_iff.1 hq).1
    exact hj i j hi hj2 a (by omega)
/-- No pairs are more than those that are found. -/
theorem numM_most {K : Nat} {g : Nat → Int} (h : ∀ i, i < K → 0 ≤ g i → (g i).toNat < n ∧ E i (g i).toNat = true) (hj : ∀ i j, i < K → j < K → 0 ≤ g i → g i = g j → i = j) : (cnt K fun i => decide (0 ≤ g i)) ≤ numM E n K := by
  obtain ⟨T, hR⟩ := run_all (E := E) (n := n) K
  have hm := hR.mat
  refine Nat.le_trans (cover_le (n := n) (CL := fun i => !sideA K n T (runM E n K) i) (CR := T) (fun i hi h0 => ?_) hj) ?_
  · obtain ⟨a, b⟩ := h i hi h0
    refine ⟨a, ?_⟩
    cases hA : sideA K n T (runM E n K) i with
    | false => exact .inl rfl
    | true => exact .inr (hR.shut.out i _ hA a b)
  · rw [numM_nx]
    have h1 : (cnt K fun i => decide (0 ≤ (runM E n K).nx i)) = cnt K fun i => (!sideA K n T (runM E n K) i) || (sideA K n T (runM E n K) i && decide (0 ≤ (runM E n K).nx i)) := cnt_congr fun i hi => by
      cases hA : sideA K n T (runM E n K) i with
      | true => simp
      | false =>
        by_cases h0 : 0 ≤ (runM E n K).nx i
        · simp [h0]
        · rw [sideA_free hi (by omega)] at hA; cases hA
    rw [h1, cnt_or (fun i _ hp => by cases hA : sideA K n T (runM E n K) i <;> simp_all)]
    refine Nat.add_le_add_left (cnt_inj (fun j => ((runM E n K).mate j).toNat) (fun j hj hT => ?_) (fun i j hi hj hp hq e => ?_)) _
    · obtain ⟨h0, hA⟩ := hR.shut.back j hj hT
      have h2 := hm.mn j hj h0
      refine ⟨Nat.lt_of_not_le fun hle => ?_, ?_⟩
      · have := hR.lo _ hle; omega
      · rw [hA, h2, decide_eq_true (by omega)]; rfl
    · have h1 := hm.mn i hi (hR.shut.back i hi hp).1
      have h2 := hm.mn j hj (hR.shut.back j hj hq).1
      rw [e, h2] at h1; omega
end
/-! What is in order. -/
section
variable {E : Nat → Nat → Bool} {n : Nat}
/-- As many as are not found lie apart. -/
theorem apart_all (_irr : ∀ i, E i i = false) : ∃ W : Nat → Bool, n ≤ cnt n W + numM E n n ∧ ∀ i j, i < n → j < n → W i = true → W j = true → E i j = false := by
  obtain ⟨T, hR⟩ := run_all (E := E) (n := n) n
  have hm := hR.mat
  refine ⟨fun i => sideA n n T (runM E n n) i && !T i, ?_, fun i j hi hj hi2 hj2 => ?_⟩
  · have h1 : (cnt n (sideA n n T (runM E n n))) = cnt n fun i => (sideA n n T (runM E n n) i && !T i) || (sideA n n T (runM E n n) i && T i) := cnt_congr fun i _ => by cases T i <;> simp
    rw [cnt_or (fun i _ hp => by cases hT : T i <;> simp_all)] at h1
    have h2 : (cnt n fun i => sideA n n T (runM E n n) i && T i) ≤ cnt n T := cnt_mono fun i _ hp => (Bool.and_eq_true_iff.1 hp).2
    have h3 : (cnt n fun i => decide ((runM E n n).nx i < 0)) + cnt n T ≤ cnt n (sideA n n T (runM E n n)) := by
      have h4 : (cnt n (sideA n n T (runM E n n))) = cnt n fun i => decide ((runM E n n).nx i < 0) || (sideA n n T (runM E n n) i && decide (0 ≤ (runM E n n).nx i)) := cnt_congr fun i hi => by
        by_cases h0 : (runM E n n).nx i < 0
        · rw [sideA_free hi h0, decide_eq_true h0]; rfl
        · rw [decide_eq_false h0, decide_eq_true (show 0 ≤ (runM E n n).nx i by omega)]; simp
      rw [h4, cnt_or (fun i _ hp => by have := of_decide_eq_true hp; rw [decide_eq_false (by omega), Bool.and_false])]
      refine Nat.add_le_add_left (cnt_inj (fun j => ((runM E n n).mate j).toNat) (fun j hj hT => ?_) (fun i j hi hj hp hq e => ?_)) _
      · obtain ⟨h0, hA⟩ := hR.shut.back j hj hT
        have h2 := hm.mn j hj h0
        refine ⟨Nat.lt_of_not_le fun hle => ?_, ?_⟩
        · have := hR.lo _ hle; omega
        · rw [hA, h2, decide_eq_true (by omega)]; rfl
      · have h1 := hm.mn i hi (hR.shut.back i hi hp).1
        have h2 := hm.mn j hj (hR.shut.back j hj hq).1
        rw [e, h2] at h1; omega
    have h5 := cnt_not (n := n) (p := fun i => decide (0 ≤ (runM E n n).nx i))
    rw [← numM_nx, cnt_congr (q := fun i => decide ((runM E n n).nx i < 0)) (fun i _ => by
      by_cases h0 : 0 ≤ (runM E n n).nx i
      · rw [decide_eq_true h0, decide_eq_false (by omega)]; rfl
      · rw [decide_eq_false h0, decide_eq_true (by omega)]; rfl)] at h5
    omega
  · obtain ⟨a, b⟩ := Bool.and_eq_true_iff.1 hi2
    obtain ⟨c, d⟩ := Bool.and_eq_true_iff.1 hj2
    cases he : E i j with
    | false => rfl
    | true => rw [hR.shut.out i j a hj he] at d; cases d
/-- What lies apart is not more than what is not found. -/
theorem apart_most (tr : ∀ i j k, i < n → j < n → k < n → E i j = true → E j k = true → E i k = true) {W : Nat → Bool} (hW : ∀ i j, i < n → j < n → W i = true → W j = true → E i j = false) : cnt n W + numM E n n ≤ n := by
  have hm := runM_mat (E := E) (n := n) n
  have hlo := fun i => runM_lo (E := E) (n := n) n (i := i)
  let D : Nat → Bool := fun i => (List.range n).any fun j => W j && E i j
  have hD : ∀ i j, j < n → W j = true → E i j = true → D i = true := fun i j hj h1 h2 => List.any_eq_true.2 ⟨j, List.mem_range.2 hj, by rw [h1, h2]; rfl⟩
  have hD2 : ∀ i, D i = true → ∃ j, j < n ∧ W j = true ∧ E i j = true := fun i h => by
    obtain ⟨j, hj, h⟩ := List.any_eq_true.1 h
    obtain ⟨a, b⟩ := Bool.and_eq_true_iff.1 h
    exact ⟨j, List.mem_range.1 hj, a, b⟩
  have hWD : ∀ i, i < n → W i = true → D i = false := fun i hi h => by
    cases e : D i with
    | false => rfl
    | true =>
      obtain ⟨j, hj, a, b⟩ := hD2 i e
      rw [hW i j hi hj h a] at b; cases b
  have h1 : numM E n n ≤ cnt n D + cnt n fun j => !(W j || D j) := by
    rw [numM_nx]
    refine cover_le (n := n) (fun i hi h0 => ?_) (fun i j hi hj h0 e => ?_)
    · obtain ⟨a, b, c⟩ := hm.nm i h0
      refine ⟨a, ?_⟩
      cases hw : W ((runM E n n).nx i).toNat with
      | true => exact .inl (hD i _ a hw c)
      | false =>
        cases hd : D ((runM E n n).nx i).toNat with
        | true =>
          obtain ⟨j, hj, p, q⟩ := hD2 _ hd
          exact .inl (hD i j hj p (tr i _ j hi a hj c q))
        | false => exact .inr rfl
    · have h2 := (hm.nm i h0).2.1
      have h3 := (hm.nm j (by omega)).2.1
      rw [e, h3] at h2; omega
  have h2 := cnt_not (n := n) (p := fun j => W j || D j)
  rw [cnt_or hWD] at h2
  omega
end
end Go.Proofs.YtfnalecnnmkgbaaDoor
/- Chains of searches: what the chapter says of them. -/
namespace Go.Proofs.YtfnalecnnmkgbaaDoor
open Go.Sl
/-- A search is a part of another one; a proper one; none of both is a part of the other one. -/
def underI (a b : Int) : Bool := decide (a.toNat &&& b.toNat = a.toNat)
def partI (a b : Int) : Bool := underI a b && decide (a ≠ b)
def apartI (a b : Int) : Bool := !underI a b && !underI b a
def EPt (l m : List Int) (i j : Nat) : Bool := partI (l.getD i 0) (m.getD j 0)
/-- How many of some searches can have a next one of others, each another one. -/
def matchN (l m : List Int) : Nat := numM (EPt l m) m.length l.length
def fewN (l : List Int) : Int := (l.length : Int) - (matchN l l : Nat)
/-- Numbers that are searches of at most ten columns. -/
def Sets (l : List Int) : Prop := ∀ x ∈ l, 0 ≤ x ∧ x < 1024
theorem Sets.get {l : List Int} (h : Sets l) {i : Nat} (hi : i < l.length) : ∃ a : Nat, l[i] = (a : Int) ∧ a < 1024 := by
  have := h _ (List.getElem_mem hi)
  exact ⟨l[i].toNat, by omega, by omega⟩
/-- The error of searches. -/
def chkL (m : Nat) : List Int → List Int → Int
  | _, [] => 0
  | seen, x :: r => if 1 ≤ x ∧ x < ((2 ^ m : Nat) : Int) then (if x ∈ seen then 5 else chkL m (seen ++ [x]) r) else 2
def checkE (cols : Int) (l : List Int) : Int := if cols < 1 ∨ 10 < cols then 1 else if 24 < l.length then 3 else chkL cols.toNat [] l
theorem chkL_cases (m : Nat) : ∀ (l seen : List Int), chkL m seen l = 0 ∨ chkL m seen l = 2 ∨ chkL m seen l = 5
  | [], _ => .inl rfl
  | x :: r, seen => by
    unfold chkL
    split
    · split
      · exact .inr (.inr rfl)
      · exact chkL_cases m r _
    · exact .inr (.inl rfl)
theorem chkL_ok {m : Nat} : ∀ {l seen : List Int}, chkL m seen l = 0 → (∀ x ∈ l, (1 ≤ x ∧ x < ((2 ^ m : Nat) : Int)) ∧ x ∉ seen) ∧ l.Nodup
  | [], _, _ => ⟨fun _ h => by simp at h, List.nodup_nil⟩
  | x :: r, seen, h => by
    unfold chkL at h
    split at h
    · rename_i h1
      split at h
      · cases h
      · rename_i h2
        have ih := chkL_ok h
        refine ⟨fun y hy => ?_, List.nodup_cons.2 ⟨fun hx => ?_, ih.2⟩⟩
        · rcases List.mem_cons.1 hy with rfl | hy
          · exact ⟨h1, h2⟩
          · exact ⟨(ih.1 y hy).1, fun hs => (ih.1 y hy).2 (List.mem_append_left _ hs)⟩
        · exact (ih.1 x hx).2 (by simp)
    · cases h
theorem checkE_ok {cols : Int} {l : List Int} (h : checkE cols l = 0) : (1 ≤ cols ∧ cols ≤ 10) ∧ l.length ≤ 24 ∧ (∀ x ∈ l, 1 ≤ x ∧ x < ((2 ^ cols.toNat : Nat) : Int)) ∧ l.Nodup ∧ Sets l := by
  unfold checkE at h
  split at h
  · cases h
  · split at h
    · cases h
    · have h1 := chkL_ok h
      have hp : 2 ^ cols.toNat ≤ 2 ^ 10 := Nat.pow_le_pow_right (by decide) (by omega)
      exact ⟨by omega, by omega, fun x hx => (h1.1 x hx).1, h1.2, fun x hx => by have := (h1.1 x hx).1; omega⟩
end Go.Proofs.YtfnalecnnmkgbaaDoor
