/- The program's kinds of uses, and what goes through them. -/
import Derived.Test.YtdehpaikapbckaaW10
namespace Go.Proofs.Ytdehpaikapbckaa
open Go.Sl
variable {S : Nat → Prop} {w0 : World} {η : Heap}
abbrev fnV (g : Nat) : Value := .func (.func g) #[] #[]
abbrev ptr (b : Nat) : Value := .pointer (some ⟨b, 0, none⟩)
set_option maxHeartbeats 2000000 in
theorem all_fn  :
    Rt Try.prog 36 ([] : List Value).toArray S w0 η (fun v η' => v = .agg #[fnV 60, fnV 61] ∧ η' = η) := by
  have hF := open_wide
  refine Rt.of (fn := Try.f36) Try.func36 rfl rfl ?_
  refine T.seq ?_
  refine T.region ?_
  refine TL.alloc hF rfl (fun b0 => ?_)
  refine TL.nil ?_
  refine TQ.then_n ?_
  refine T.seq ?_
  refine T.region ?_
  refine TL.build hF rfl (r := .agg #[fnV 60]) (fun w => by kernel_rfl) rfl ?_
  refine TL.build hF rfl (r := .agg #[fnV 61]) (fun w => by kernel_rfl) rfl ?_
  refine TL.build hF rfl (r := .agg #[fnV 60, fnV 61]) (fun w => by kernel_rfl) rfl ?_
  refine TL.storeAI hF [fnV 60, fnV 61] 0 rfl rfl rfl rfl (by simp [Value.oneCell']) (by simp [Value.cells]) ?_
  refine TL.nil ?_
  refine TQ.then_n ?_
  refine T.ret ?_
  exact TQ.retC [fnV 60, fnV 61] η rfl rfl rfl (own_list (i := 0) rfl) (List.sublist_cons_self _ _) ⟨rfl, rfl⟩
set_option maxHeartbeats 2000000 in
theorem from_fn (wv : Value) (hwv : wv.cells = #[wv]) (r : Int) (g : Nat) :
    Rt Try.prog 35 [wv, .int .i64 r, .agg #[fnV g]].toArray S w0 η (fun v η' => ∃ b3 b4 b5, v = .func (.func 59) #[] #[ptr b3, ptr b5, ptr b4] ∧ η' = [(b5, .cells #[fnV g] 72 (0, 0))] :: [(b4, .cells #[.int .i64 r] 3 (0, 0))] :: [(b3, .cells #[wv] 59 (0, 0))] :: η) := by
  have hF := open_wide
  refine Rt.of (fn := Try.f35) Try.func35 rfl rfl ?_
  refine T.seq ?_
  refine T.region ?_
  refine TL.box hF rfl rfl (fun b3 => ?_)
  refine TL.box hF rfl rfl (fun b4 => ?_)
  refine TL.box hF rfl rfl (fun b5 => ?_)
  refine TL.assign hF rfl rfl ?_
  refine TL.nil ?_
  refine TQ.then_n ?_
  refine T.seq ?_
  refine T.region ?_
  refine TL.makeFunc hF rfl rfl rfl ?_
  refine TL.assign hF rfl rfl ?_
  refine TL.nil ?_
  refine TQ.then_n ?_
  refine T.ret ?_
  refine TQ.rets [6] _ rfl rfl rfl ?_
  exact ⟨b3, b4, b5, rfl, by rw [hwv]; rfl⟩
/-- A kind of uses: what its function answers. -/
def KindOk (g : Nat) (U : Int → Int → Bool → Bool) (dn : Bool) : Prop := ∀ (S : Nat → Prop) (w0 : World) (η : Heap) (bw : Nat) (n : Int) (m : List ((Int × Int) × Bool)), Web η bw n U m → ∀ a b : Int, Rt Try.prog g [ptr bw, KU (a, b)].toArray S w0 η (fun v η' => v = .bool (U a b dn) ∧ η' = η)
theorem kind_any (U : Int → Int → Bool → Bool) : KindOk 60 U false := fun _ _ _ _ _ _ hw a b => any_fn hw a b
theorem kind_denial (U : Int → Int → Bool → Bool) (hU : ∀ a b, U a b true = true → U a b false = true) : KindOk 61 U true := fun _ _ _ _ _ _ hw a b => denial_fn hw hU a b
def FromC (b3 b4 b5 bw : Nat) (r : Int) (g : Nat) (n : Int) (U : Int → Int → Bool → Bool) (m : List ((Int × Int) × Bool)) (η : Heap) : Prop :=
  [(b3, Obj.cells #[ptr bw] 59 (0, 0))] ∈ η ∧ [(b4, Obj.cells #[.int .i64 r] 3 (0, 0))] ∈ η ∧ [(b5, Obj.cells #[fnV g] 72 (0, 0))] ∈ η ∧ Web η bw n U m
theorem filter_enc {n k : Nat} {p : Nat → Bool} (hk : k < n) (hp : p k = true) : (((List.range n).filter p).map fun s : Nat => [Value.int .i64 (s : Int)])[((List.range k).filter p).length]? = some [.int .i64 (k : Int)] := by
  have e : List.range n = List.range k ++ (k :: List.range' (k + 1) (n - k - 1)) := by
    have e : n = k + (1 + (n - k - 1)) := by omega
    conv => lhs; rw [e, List.range_add]
    congr 1
    rw [show 1 + (n - k - 1) = (n - k - 1) + 1 by omega, List.range_succ_eq_map]
    simp [List.range'_eq_map_range, Nat.add_assoc, Nat.add_comm, Nat.add_left_comm, Function.comp_def]
  rw [e, List.filter_append, List.filter_cons, if_pos hp, List.map_append, List.getElem?_append_right (by simp)]
  simp
theorem filter_succ {k : Nat} {p : Nat → Bool} : ((List.range (k + 1)).filter p).length = ((List.range k).filter p).length + if p k = true then 1 else 0 := by
  rw [List.range_succ, List.filter_append, List.length_append]
  congr 1
  simp only [List.filter_cons, List.filter_nil]; split <;> simp

set_option maxHeartbeats 2000000 in
theorem from_iter {b3 b4 b5 bw : Nat} {r : Int} {g : Nat} [Ent Try.prog g] {n : Nat} {U : Int → Int → Bool → Bool} {dn : Bool} {m : List ((Int × Int) × Bool)} (hn : n ≤ 1000) (hk : KindOk g U dn) :
    Iter Try.prog 59 [] [ptr b3, ptr b5, ptr b4] (((List.range n).filter (fun s : Nat => U r s dn)).map fun s : Nat => [Value.int .i64 (s : Int)]) S w0 (FromC b3 b4 b5 bw r g n U m) := by
  intro l J X η hC hY h0
  have hF := open_wide
  refine Rt.of (fn := Try.f59) Try.func59 rfl rfl ?_
  refine T.scope ?_
  refine T.seq ?_
  refine T.label ?_
  refine TQ.then_n ?_
  refine T.seq ?_
  refine T.region ?_
  refine TL.load hF rfl (own_mem (hC _ _ h0).1 rfl) rfl ?_
  obtain ⟨bm, es, clock, hws, hwm, hwo⟩ := (hC _ _ h0).2.2.2.ex
  refine TL.nilCheck hF rfl rfl ?_
  refine TL.fieldAddr hF rfl rfl ?_
  refine TL.load hF rfl (own_mem hws rfl) rfl ?_
  refine TL.move hF rfl rfl ?_
  refine TL.nil ?_
  refine TQ.then_n ?_
  refine T.block ?_
  refine T.loop (ι := Nat × Heap) (fun i => i.1 ≤ n ∧ J ((List.range i.1).filter (fun s : Nat => U r s dn)).length i.2) (fun i => [(0, .func (.yield l) #[] #[]), (1, ptr b3), (2, ptr b5), (3, ptr b4), (9, .int .i64 (n : Int)), (10, .int .i64 (i.1 : Int))]) (fun i => i.2) (fun i => n - i.1) (0, η) ⟨Nat.zero_le _, h0⟩ ⟨rfl, rfl, rfl, rfl, rfl, rfl, trivial⟩ rfl ?_
  rintro ⟨k, η1⟩ ⟨hk1, hJ⟩
  simp only at hk1 hJ
  have hc1 := hC _ _ hJ
  refine T.seq ?_
  refine T.region ?_
  refine TL.bin hF rfl rfl rfl rfl ?_
  refine TL.nil ?_
  refine TQ.then_n ?_
  refine T.seq ?_
  first | refine T.cond_d rfl (fun ht11 => ?_) (fun ht11 => ?_) | refine T.cond _ rfl (fun ht11 => ?_) (fun ht11 => ?_)
  · refine T.skip ?_
    refine TQ.then_n ?_
    refine T.seq ?_
    refine T.block ?_
    refine T.seq ?_
    refine T.region ?_
    refine TL.move hF rfl rfl ?_
    refine TL.assign hF rfl rfl ?_
    refine TL.nil ?_
    refine TQ.then_n ?_
    refine T.seq ?_
    refine T.seq ?_
    refine T.region ?_
    refine TL.fieldAddr hF rfl rfl ?_
    refine TL.load hF rfl (own_mem hc1.2.2.1 rfl) rfl ?_
    refine TL.load hF rfl (own_mem hc1.1 rfl) rfl ?_
    refine TL.load hF rfl (own_mem hc1.2.1 rfl) rfl ?_
    refine TL.move hF rfl rfl ?_
    refine TL.build hF rfl (r := KU (r, k)) (fun w => by kernel_rfl) rfl ?_
    refine TL.callV hF (hk S w0 η1 bw n m hc1.2.2.2 r k) rfl rfl ?_
    refine TL.not hF rfl rfl ?_
    refine TL.nil ?_
    refine TQ.then_n ?_
    refine T.cond _ rfl (fun ht20 => ?_) (fun ht20 => ?_)
    · refine T.exit ?_
      refine TQ.then_x ?_
      refine TQ.block_x ?_
      refine TQ.then_n ?_
      refine T.region ?_
      refine TL.add hF rfl rfl (by omega) (by omega) rfl ?_
      refine TL.move hF rfl rfl ?_
      refine TL.nil ?_
      have hp : ¬ U r k dn = true := by simpa using ht20
      exact TQ.round (k + 1, η1) ⟨by simp only; omega, by simp only; rw [filter_succ, if_neg hp]; exact hJ⟩ (by simp only; omega) ⟨rfl, rfl, rfl, rfl, rfl, rfl, trivial⟩ rfl
    · refine T.skip ?_
      refine TQ.then_n ?_
      refine T.seq ?_
      refine T.region ?_
      refine TL.move hF rfl rfl ?_
      refine TL.move hF rfl rfl ?_
      have hp : U r k dn = true := by simpa using ht20
      refine TL.yield rfl rfl rfl (hY _ _ _ (filter_enc (p := fun s : Nat => U r s dn) (by omega) hp) hJ) rfl (fun yb η2 hyb => ?_)
      refine TL.not hF rfl rfl ?_
      refine TL.nil ?_
      refine TQ.then_n ?_
      refine T.cond _ rfl (fun ht24 => ?_) (fun ht24 => ?_)
      · refine T.ret ?_
        refine TQ.block_r ?_
        refine TQ.then_r ?_
        refine TQ.then_r ?_
        refine TQ.block_r ?_
        refine TQ.scope_r ?_
        refine TQ.rets [] _ rfl rfl rfl ?_
        have hyf : yb = false := by simpa using ht24
        subst hyf
        exact .inr hyb
      · refine T.skip ?_
        refine TQ.block_n ?_
        refine TQ.then_n ?_
        refine T.region ?_
        refine TL.add hF rfl rfl (by omega) (by omega) rfl ?_
        refine TL.move hF rfl rfl ?_
        refine TL.nil ?_
        have hyt : yb = true := by simpa using ht24
        subst hyt
        exact TQ.round (k + 1, η2) ⟨by simp only; omega, by simp only; rw [filter_succ, if_pos hp]; exact hyb⟩ (by simp only; omega) ⟨rfl, rfl, rfl, rfl, rfl, rfl, trivial⟩ rfl
  · refine T.exit ?_
    refine TQ.then_x ?_
    refine TQ.then_x ?_
    refine TQ.block_x ?_
    refine TQ.scope_n ?_
    refine TQ.norm ?_
    refine TQ.rets [] _ rfl rfl rfl ?_
    have hkn : k = n := by omega
    subst hkn
    left; simpa using hJ
end Go.Proofs.Ytdehpaikapbckaa
