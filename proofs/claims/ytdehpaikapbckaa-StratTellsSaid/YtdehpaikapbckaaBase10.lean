/- Ranges over functions: their ends; loops that leave marks. -/
import Derived.Test.YtdehpaikapbckaaBase9
namespace Go.Sl
section
variable {F : Fence} {P : Program} {S : Nat → Prop} {w0 w : World} {n : Nat} {Q : Exit → Act → World → Prop} {ds : List Deferred} {σ : Env} {η : Heap} {ops : Array Oper} {rest : List Oper} {d : Nat} {ty : TypeId} {pos : String} {af : Array Edge}

theorem TQ.swapT {tl tl' : Heap} {body : Code} {Q' : Exit → Act → World → Prop} (η1 : Heap) (he : η = η1 ++ tl) (h : T F P S w0 n Q body ds σ (η1 ++ tl')) : TQ S w0 n (Exit.then (Swap S w0 tl tl' fun a w => body.wpIn F 0 P Q a w) Q' .normal) ds σ η := TQ.swap η1 he h

theorem own_listM {b : Nat} {cs : List Value} {e : TypeId} {fz : Nat × Nat} (h : [(b, Obj.cells cs.toArray e fz)] ∈ η) : ∀ j v, cs[j]? = some v → At S w0 η ⟨b, 0 + j, none⟩ v := fun j v hj => by
  rw [Nat.zero_add]; exact .own _ h cs.toArray e fz (by simp) (by simpa using hj) rfl

/-- The end of a function behind its marks. -/
theorem TQ.retL0 {fn : Func} (ts : List Nat) (vs : List Value) {v : Value} {R : Value → Heap → Prop} (hr : fn.results = (ts.map ResultVar.tmp).toArray) (hv : lks σ ts = some vs) (he : retVal vs = v) (hR : R v η) :
    TQ S w0 n (bodyPostL P fn (post R S w0) .ret) [] σ η := fun a w hk hh => by
  show Lv P fn a.tmps (post R S w0) a.defers .returning w
  rw [hk.defers]
  exact ⟨v, by rw [results_run hr hk (lks_map hv), retVal_eq, he], v, η, rfl, hh, hR⟩
theorem TQ.retLC1 {fn : Func} {c : Nat} {ct : TypeId} [Ag P ct false] {b : Nat} {x : Value} {R : Value → Heap → Prop} (η2 : Heap) (hr : fn.results = #[ResultVar.cell c ct]) (hc : lk σ c = some (.pointer (some ⟨b, 0, none⟩)))
    (hx : At S w0 η ⟨b, 0, none⟩ x) (hs : η2.Sublist η) (hR : R x η2) : TQ S w0 n (bodyPostL P fn (post R S w0) .ret) [] σ η := fun a w hk hh => by
  show Lv P fn a.tmps (post R S w0) a.defers .returning w
  rw [hk.defers]
  refine ⟨x, ?_, x, η2, rfl, hh.seg hs, hR⟩
  have hc2 := hk.slot _ _ hc
  unfold results
  rw [hr]
  simp [Array.getD_eq_getD_getElem?, hc2, asAddr, run_loadVar1 (hx.cell hh)]

/-- Marks, and their places. -/
def marksH (rs : List Nat) : Heap := rs.map fun r => [(r, .deferred (some []))]
theorem TQ.marks {fn : Func} {R : Value → Heap → Prop} {e : Exit} {dsr : List Deferred} (he : e = .ret ∨ ∃ ch, e = .panic ch) (h : TQ S w0 n (bodyPostL P fn (post R S w0) e) dsr σ η) :
    ∀ rs : List Nat, TQ S w0 n (bodyPostL P fn (post R S w0) e) (marksOf rs ++ dsr) σ (marksH rs ++ η)
  | [] => h
  | r :: rs => TQ.mark (i := 0) he rfl (TQ.pop (TQ.marks he h rs))

/-- A loop whose rounds leave marks. -/
theorem T.loopD {c : Code} {ι : Type} (J : ι → Prop) (sg : ι → Env) (hp : ι → Heap) (sd : ι → List Deferred) (μ : ι → Nat) (i0 : ι) (h0 : J i0) (hs : Sub (sg i0) σ) (he : η = hp i0) (hd : ds = sd i0)
    (round : ∀ i, J i → T F P S w0 n (Exit.then (fun a w => ∃ j, J j ∧ μ j < μ i ∧ Kn n (sd j) (sg j) a ∧ Hp S w0 (hp j) w) Q) c (sd i) (sg i) (hp i)) :
    T F P S w0 n Q (.loop c) ds σ η := fun a w hk hh => by
  refine wpIn_loopR (fun m a w => ∃ i, J i ∧ μ i = m ∧ Kn n (sd i) (sg i) a ∧ Hp S w0 (hp i) w) ?_ (m := μ i0) ⟨i0, h0, rfl, hd ▸ hk.sub hs, he ▸ hh⟩
  rintro m a w ⟨i, hi, rfl, hk, hh⟩
  refine wpIn_mono (round i hi a w hk hh) ?_
  intro e a' w' hq
  cases e with
  | normal => obtain ⟨j, h1, h2, h3, h4⟩ := hq; exact ⟨_, h2, j, h1, rfl, h3, h4⟩
  | _ => exact hq
theorem TQ.roundD {ι : Type} {J : ι → Prop} {sg : ι → Env} {hp : ι → Heap} {sd : ι → List Deferred} {μ : ι → Nat} {i : ι} (j : ι) (hj : J j) (hm : μ j < μ i) (hs : Sub (sg j) σ) (he : η = hp j) (hd : ds = sd j) :
    TQ S w0 n (Exit.then (fun a w => ∃ j, J j ∧ μ j < μ i ∧ Kn n (sd j) (sg j) a ∧ Hp S w0 (hp j) w) Q .normal) ds σ η := fun _ _ hk hh => ⟨j, hj, hm, hd ▸ hk.sub hs, he ▸ hh⟩
end
end Go.Sl
