/- The program's check, and how its web is made. -/
import Derived.Test.YtdehpaikapbckaaW9
namespace Go.Proofs.Ytdehpaikapbckaa
open Go.Sl
variable {S : Nat → Prop} {w0 : World} {η : Heap}
theorem bodyA {a : Option Addr} {l : List AtomD} (h : Row S w0 [] a (l.flatMap AtomD.cells)) {j : Nat} (hj : j < l.length) : ∀ k v, l[j].cells[k]? = some v → At S w0 η ⟨(sAt a (j * 3)).block, (sAt a (j * 3)).off + k, none⟩ v := fun k v hk => by
  have hk3 : k < 3 := by have := (List.getElem?_eq_some_iff.1 hk).1; rw [acells_len] at this; exact this
  rw [sAt_add]; exact h.ro.cell _ _ (by rw [flat_get 3 AtomD.cells acells_len _ j k hk3, List.getElem?_eq_getElem hj]; exact hk)
theorem bodyAd {a : Option Addr} {l : List AtomD} (h : Row S w0 [] a (l.flatMap AtomD.cells)) {j : Nat} (hj : j < l.length) : ∃ ad, a = some ad ∧ ad.spot = none := h.ad (by
  cases l with
  | nil => simp at hj
  | cons x l => simp [AtomD.cells])

abbrev WV (r : RuleD) : Value := .agg #[.int .i64 r.head, .slice r.ba r.body.length r.bc]
set_option maxHeartbeats 2000000 in
theorem clear_fn {r : RuleD} (rels : Int) (hb : Row S w0 [] r.ba (r.body.flatMap AtomD.cells)) (hl : r.body.length < 2 ^ 63) :
    RtE Try.prog 88 [WV r, .int .i64 rels].toArray S w0 η (fun v η' => checkR rels r = 0 ∧ η' = η) (fun ch η' => checkR rels r ≠ 0 ∧ ch = stopV (checkR rels r) ∧ η' = η) := by
  have hF := open_wide
  refine RtE.of (fn := Try.f88) Try.func88 rfl rfl ?_
  refine T.seq ?_
  refine T.region ?_
  refine TL.box hF rfl rfl (fun b2 => ?_)
  refine TL.nil ?_
  refine TQ.then_n ?_
  refine T.seq ?_
  refine T.region ?_
  refine TL.fieldAddr hF rfl rfl ?_
  refine TL.load hF rfl (by first | exact At.own' (i := 0) rfl rfl | exact At.own' (i := 1) rfl rfl | exact At.own' (i := 2) rfl rfl | exact At.own' (i := 3) rfl rfl | exact At.own' (i := 4) rfl rfl) rfl ?_
  refine TL.len hF rfl rfl ?_
  refine TL.bin hF rfl rfl rfl rfl ?_
  refine TL.callE hF (must_fn _ 3) rfl rfl ?_ ?_
  · rintro _ _ ⟨h6, rfl⟩
    have h6' : ¬ 6 < r.body.length := by have := of_decide_eq_true h6; omega
    refine TL.nil ?_
    refine TQ.then_n ?_
    refine T.seq ?_
    refine T.region ?_
    refine TL.fieldAddr hF rfl rfl ?_
    refine TL.loadA hF [.int .i64 r.head] rfl rfl (fun i v hi => by
        rcases i with _ | i
        · simp at hi; subst hi; exact own_list (i := 0) (cs := [.int .i64 r.head, .slice r.ba r.body.length r.bc]) rfl 0 _ rfl
        · simp at hi) rfl ?_
    refine TL.move hF rfl rfl ?_
    refine TL.callE hF (headClear_fn r.head rels) rfl rfl ?_ ?_
    · rintro _ _ ⟨hi, rfl⟩
      refine TL.nil ?_
      refine TQ.then_n ?_
      refine T.seq ?_
      refine T.region ?_
      refine TL.fieldAddr hF rfl rfl ?_
      refine TL.load hF rfl (by first | exact At.own' (i := 0) rfl rfl | exact At.own' (i := 1) rfl rfl | exact At.own' (i := 2) rfl rfl | exact At.own' (i := 3) rfl rfl | exact At.own' (i := 4) rfl rfl) rfl ?_
      refine TL.len hF rfl rfl ?_
      refine TL.move hF rfl rfl ?_
      refine TL.nil ?_
      refine TQ.then_n ?_
      refine T.block ?_
      refine T.loop (ι := Nat) (fun j => j ≤ r.body.length ∧ atomsOk rels r.body = atomsOk rels (r.body.drop j)) (fun j => [(0, WV r), (1, .int .i64 rels), (2, .pointer (some ⟨b2, 0, none⟩)), (16, .slice r.ba r.body.length r.bc), (17, .int .i64 (r.body.length : Int)), (18, .int .i64 (j : Int))]) (fun _ => [(b2, .cells #[.int .i64 r.head, .slice r.ba r.body.length r.bc] 103 (0, 0))] :: η) (fun j => r.body.length - j) 0 ⟨Nat.zero_le _, by simp⟩ ⟨rfl, rfl, rfl, rfl, rfl, rfl, trivial⟩ rfl ?_
      rintro j ⟨hj, hjs⟩
      refine T.seq ?_
      refine T.region ?_
      refine TL.bin hF rfl rfl rfl rfl ?_
      refine TL.nil ?_
      refine TQ.then_n ?_
      refine T.seq ?_
      first | refine T.cond_d rfl (fun ht19 => ?_) (fun ht19 => ?_) | refine T.cond _ rfl (fun ht19 => ?_) (fun ht19 => ?_)
      · refine T.skip ?_
        refine TQ.then_n ?_
        refine T.seq ?_
        refine T.block ?_
        refine T.seq ?_
        refine T.region ?_
        refine TL.indexAddr hF rfl rfl (bodyAd hb (j := j) (by omega)) (by omega) (by omega) rfl ?_
        refine TL.loadA hF r.body[j].cells rfl rfl (bodyA hb (j := j) (by omega)) rfl ?_
        refine TL.alloc hF rfl (fun b5 => ?_)
        refine TL.storeAI hF r.body[j].cells 0 rfl rfl rfl rfl (by simp [AtomD.cells, Value.oneCell']) (by simp [Value.cells, acells_len]) ?_
        refine TL.nil ?_
        refine TQ.then_n ?_
        refine T.region ?_
        refine TL.fieldAddr hF rfl rfl ?_
        refine TL.load hF rfl (by first | exact At.own' (i := 0) rfl rfl | exact At.own' (i := 1) rfl rfl | exact At.own' (i := 2) rfl rfl | exact At.own' (i := 3) rfl rfl | exact At.own' (i := 4) rfl rfl) rfl ?_
        refine TL.build hF rfl (r := .agg #[.int .i64 r.body[j].rel]) (fun w => by kernel_rfl) rfl ?_
        refine TL.move hF rfl rfl ?_
        refine TL.callV hF (within_fn r.body[j].rel rels) rfl rfl ?_
        refine TL.callE hF (must_fn _ 2) rfl rfl ?_ ?_
        · rintro _ _ ⟨hin, rfl⟩
          refine TL.nil ?_
          refine TQ.block_n ?_
          refine TQ.then_n ?_
          refine T.region ?_
          refine TL.add hF rfl rfl (by omega) (by omega) rfl ?_
          refine TL.move hF rfl rfl ?_
          refine TL.nil ?_
          refine TQ.pop ?_
          refine TQ.round (j + 1) ⟨by omega, by rw [hjs, drop_step (by omega), atomsOk]; simp [hin]⟩ (by omega) ⟨rfl, rfl, rfl, rfl, rfl, rfl, trivial⟩ rfl
        · rintro _ _ ⟨hin, rfl, rfl⟩
          refine TQ.block_p ?_
          refine TQ.then_p ?_
          refine TQ.then_p ?_
          refine TQ.block_p ?_
          refine TQ.pop ?_
          refine TQ.pop ?_
          have e : checkR rels r = 2 := by
            have h1 : atomsOk rels r.body = false := by rw [hjs, drop_step (by omega), atomsOk]; simp [hin]
            simp [checkR, h6', hi, h1]
          exact TQ.panicE (by rw [e]; exact ⟨by decide, rfl, rfl⟩)
      · refine T.exit ?_
        refine TQ.then_x ?_
        refine TQ.then_x ?_
        refine TQ.block_x ?_
        refine TQ.norm ?_
        refine TQ.pop ?_
        refine TQ.retsE [] _ rfl rfl rfl ?_
        have h1 : atomsOk rels r.body = true := by rw [hjs, List.drop_of_length_le (by omega)]; rfl
        exact ⟨by simp [checkR, h6', hi, h1], rfl⟩
    · rintro _ _ ⟨hi, rfl, rfl⟩
      refine TQ.then_p ?_
      refine TQ.pop ?_
      exact TQ.panicE (by have e : checkR rels r = 2 := by simp [checkR, h6', hi]
                          rw [e]; exact ⟨by decide, rfl, rfl⟩)
  · rintro _ _ ⟨h6, rfl, rfl⟩
    have h6' : 6 < r.body.length := by have := of_decide_eq_false h6; omega
    refine TQ.then_p ?_
    refine TQ.pop ?_
    exact TQ.panicE (by have e : checkR rels r = 3 := by simp [checkR, h6']
                        rw [e]; exact ⟨by decide, rfl, rfl⟩)
/-- The uses of the first rules, and of the first atoms of the next one. -/
def usesP (rs : List RuleD) (i j : Nat) (a b : Int) (dn : Bool) : Bool := uses a b dn (rs.take i) || (match rs[i]? with | some r => decide (r.head = a) && usesA b dn (r.body.take j) | none => false)
theorem uses_append (a b : Int) (dn : Bool) : ∀ (xs ys : List RuleD), uses a b dn (xs ++ ys) = (uses a b dn xs || uses a b dn ys)
  | [], ys => by simp [uses]
  | x :: xs, ys => by simp [uses, uses_append a b dn xs ys, Bool.or_assoc]
theorem usesA_append (b : Int) (dn : Bool) : ∀ (xs ys : List AtomD), usesA b dn (xs ++ ys) = (usesA b dn xs || usesA b dn ys)
  | [], ys => by simp [usesA]
  | x :: xs, ys => by simp [usesA, usesA_append b dn xs ys, Bool.or_assoc]
theorem usesP_zero (rs : List RuleD) (i : Nat) : usesP rs i 0 = fun a b dn => uses a b dn (rs.take i) := by
  funext a b dn; unfold usesP; cases rs[i]? <;> simp [usesA]
theorem usesP_full {rs : List RuleD} {i : Nat} (hi : i < rs.length) : usesP rs i rs[i].body.length = fun a b dn => uses a b dn (rs.take (i + 1)) := by
  funext a b dn
  unfold usesP
  rw [List.getElem?_eq_getElem hi, List.take_succ_eq_append_getElem hi, uses_append]
  simp [uses]
theorem usesP_succ {rs : List RuleD} {i j : Nat} (hi : i < rs.length) (hj : j < rs[i].body.length) (a b : Int) (dn : Bool) : usesP rs i (j + 1) a b dn = (usesP rs i j a b dn || (decide (rs[i].head = a) && hit b dn rs[i].body[j])) := by
  unfold usesP
  rw [List.getElem?_eq_getElem hi]
  simp only
  rw [List.take_succ_eq_append_getElem hj, usesA_append]
  simp only [usesA, Bool.or_false, Bool.and_or_distrib_left, Bool.or_assoc]
theorem usesA_le {b : Int} : ∀ {xs : List AtomD}, usesA b true xs = true → usesA b false xs = true
  | [], h => by simp [usesA] at h
  | x :: xs, h => by
    simp only [usesA, hit, Bool.or_eq_true, Bool.and_eq_true] at h ⊢
    rcases h with ⟨h1, h2⟩ | h
    · exact .inl ⟨h1, by simp⟩
    · exact .inr (usesA_le h)
theorem uses_le {a b : Int} : ∀ {xs : List RuleD}, uses a b true xs = true → uses a b false xs = true
  | [], h => by simp [uses] at h
  | x :: xs, h => by
    simp only [uses, Bool.or_eq_true, Bool.and_eq_true] at h ⊢
    rcases h with ⟨h1, h2⟩ | h
    · exact .inl ⟨h1, usesA_le h2⟩
    · exact .inr (uses_le h)
theorem usesP_le {rs : List RuleD} {i j : Nat} {a b : Int} (h : usesP rs i j a b true = true) : usesP rs i j a b false = true := by
  unfold usesP at h ⊢
  simp only [Bool.or_eq_true] at h ⊢
  rcases h with h | h
  · exact .inl (uses_le h)
  · right
    cases hr : rs[i]? with
    | none => simp [hr] at h
    | some r => simp only [hr, Bool.and_eq_true] at h ⊢; exact ⟨h.1, usesA_le h.2⟩
theorem WOk.put {U : Int → Int → Bool → Bool} {m : List ((Int × Int) × Bool)} (h : WOk U m) (hU : ∀ a b, U a b true = true → U a b false = true) (p q : Int) (neg : Bool) {U' : Int → Int → Bool → Bool} (hU' : ∀ a b dn, U' a b dn = (U a b dn || (decide (p = a) && (decide (q = b) && (neg || !dn))))) :
    WOk U' (mput (p, q) ((mget (p, q) m).getD false || neg) m) := by
  intro a b
  rw [mget_mput, hU', hU', h a b, h p q]
  by_cases e : (a, b) = (p, q)
  · cases e
    have := hU p q
    revert this
    cases U p q false <;> cases U p q true <;> cases neg <;> simp
  · rw [if_neg e]
    have e2 : (decide (p = a) && (decide (q = b) && (neg || !false))) = false := by
      rw [Bool.eq_false_iff]; intro h; simp at h; exact e (by rw [h.1, h.2])
    have e3 : (decide (p = a) && (decide (q = b) && (neg || !true))) = false := by
      rw [Bool.eq_false_iff]; intro h; simp at h; exact e (by rw [h.1, h.2.1])
    rw [e2, e3]; simp
theorem checkR_body {rels : Int} {r : RuleD} (h : checkR rels r = 0) : r.body.length ≤ 6 := by
  unfold checkR at h; split at h; · omega
  omega
theorem errs_drop {rels : Int} {rs : List RuleD} {k : Nat} (hk : k < rs.length) : errs rels (rs.drop k) = if checkR rels rs[k] = 0 then errs rels (rs.drop (k + 1)) else checkR rels rs[k] := by rw [drop_step hk, errs]

set_option maxHeartbeats 2000000 in
theorem opened_fn {p : Option Addr} {rs : List RuleD} {c : Nat} (rels : Int) (hr : Rules S w0 [] p rs) (hl : rs.length < 2 ^ 63) (hbl : ∀ r ∈ rs, r.body.length < 2 ^ 63) :
    RtE Try.prog 26 [.int .i64 rels, .slice p rs.length c].toArray S w0 η (fun v η' => check rels rs = 0 ∧ ∃ bw bm es clock m, v = .pointer (some ⟨bw, 0, none⟩) ∧ η' = wseg bw bm rels :: [(bm, .map es clock)] :: η ∧ MObj KU Value.bool m es clock ∧ WOk (fun a b dn => uses a b dn rs) m) (fun ch η' => check rels rs ≠ 0 ∧ ch = stopV (check rels rs) ∧ η' = η) := by
  have hF := open_wide
  refine RtE.of (fn := Try.f26) Try.func26 rfl rfl ?_
  refine T.seq ?_
  refine T.region ?_
  refine TL.assign hF rfl rfl ?_
  refine TL.nil ?_
  refine TQ.then_n ?_
  refine T.seq ?_
  refine T.region ?_
  refine TL.move hF rfl rfl ?_
  refine TL.bin hF rfl rfl rfl rfl ?_
  refine TL.move hF rfl rfl ?_
  refine TL.gd (t := 14) rfl (fun g1_14 => ?_) (fun g1_14 => ?_)
  · refine TL.on rfl rfl rfl (decide_eq_true g1_14) ?_
    refine TL.move hF rfl rfl ?_
    refine TL.on rfl rfl rfl (decide_eq_true g1_14) ?_
    refine TL.bin hF rfl rfl rfl rfl ?_
    refine TL.pickT hF rfl (decide_eq_true g1_14) rfl rfl ?_
    refine TL.callM hF (must_fn _ 1) rfl rfl (fun h1 v18 => ?_) (fun h1 => ?_)
    · have hk1 : 1 ≤ rels ∧ rels ≤ 48 := by simp_all
      refine TL.nil ?_
      refine TQ.then_n ?_
      refine T.seq ?_
      refine T.region ?_
      refine TL.move hF rfl rfl ?_
      refine TL.len hF rfl rfl ?_
      refine TL.bin hF rfl rfl rfl rfl ?_
      refine TL.callM hF (must_fn _ 3) rfl rfl (fun h1 v22 => ?_) (fun h1 => ?_)
      · have hk2 : ¬ 60 < rs.length := by have := of_decide_eq_true h1; omega
        refine TL.nil ?_
        refine TQ.then_n ?_
        refine T.seq ?_
        refine T.region ?_
        refine TL.move hF rfl rfl ?_
        refine TL.makeMap hF rfl (fun b24 => ?_)
        refine TL.build hF rfl (r := .agg #[.int .i64 rels, .map (some b24)]) (fun w => by kernel_rfl) rfl ?_
        refine TL.box hF rfl rfl (fun b26 => ?_)
        refine TL.assign hF rfl rfl ?_
        refine TL.nil ?_
        refine TQ.then_n ?_
        refine T.seq ?_
        refine T.seq ?_
        refine T.region ?_
        refine TL.move hF rfl rfl ?_
        refine TL.len hF rfl rfl ?_
        refine TL.move hF rfl rfl ?_
        refine TL.nil ?_
        refine TQ.then_n ?_
        refine T.block ?_
        have hck : check rels rs = errs rels rs := by unfold check; rw [if_neg (by omega), if_neg (by omega), if_neg hk2]
        refine T.loop (ι := Nat × Array MapEntry × Nat × List ((Int × Int) × Bool)) (fun i => i.1 ≤ rs.length ∧ errs rels rs = errs rels (rs.drop i.1) ∧ MObj KU Value.bool i.2.2.2 i.2.1 i.2.2.1 ∧ WOk (fun a b dn => uses a b dn (rs.take i.1)) i.2.2.2) (fun i => [(0, .int .i64 rels), (1, .slice p rs.length c), (5, .pointer (some ⟨b26, 0, none⟩)), (27, .slice p rs.length c), (28, .int .i64 (rs.length : Int)), (29, .int .i64 (i.1 : Int))]) (fun i => wseg b26 b24 rels :: [(b24, .map i.2.1 i.2.2.1)] :: η) (fun i => rs.length - i.1) (0, #[], 0, []) ⟨Nat.zero_le _, by simp, MObj.nil _ _, fun a b => by simp [uses, mget]⟩ ⟨rfl, rfl, rfl, rfl, rfl, rfl, trivial⟩ rfl ?_
        rintro ⟨i, es, clock, m⟩ ⟨hi, he, hm, hw⟩
        simp only at hi he hm hw
        refine T.seq ?_
        refine T.region ?_
        refine TL.bin hF rfl rfl rfl rfl ?_
        refine TL.nil ?_
        refine TQ.then_n ?_
        refine T.seq ?_
        first | refine T.cond_d rfl (fun ht30 => ?_) (fun ht30 => ?_) | refine T.cond _ rfl (fun ht30 => ?_) (fun ht30 => ?_)
        · refine T.skip ?_
          refine TQ.then_n ?_
          refine T.seq ?_
          refine T.block ?_
          refine T.seq ?_
          refine T.region ?_
          refine TL.indexAddr hF rfl rfl (hr.ad (by omega)) (by omega) (by omega) rfl ?_
          refine TL.loadA hF (rs[i]'(by omega)).cells rfl rfl (hr.ro.atA (i := i) (by omega)) rfl ?_
          refine TL.alloc hF rfl (fun b7 => ?_)
          refine TL.storeAI hF (rs[i]'(by omega)).cells 0 rfl rfl rfl rfl (by simp [RuleD.cells, Value.oneCell']) (by simp [Value.cells, cells_len]) ?_
          refine TL.nil ?_
          refine TQ.then_n ?_
          refine T.seq ?_
          refine T.region ?_
          refine TL.fieldAddr hF rfl rfl ?_
          refine TL.load hF rfl (by first | exact At.own' (i := 0) rfl rfl | exact At.own' (i := 1) rfl rfl | exact At.own' (i := 2) rfl rfl | exact At.own' (i := 3) rfl rfl | exact At.own' (i := 4) rfl rfl) rfl ?_
          refine TL.build hF rfl (r := .agg #[.int .i64 (rs[i]'(by omega)).head]) (fun w => by kernel_rfl) rfl ?_
          refine TL.fieldAddr hF rfl rfl ?_
          refine TL.fieldAddr hF rfl rfl ?_
          refine TL.load hF rfl (by first | exact At.own' (i := 0) rfl rfl | exact At.own' (i := 1) rfl rfl | exact At.own' (i := 2) rfl rfl | exact At.own' (i := 3) rfl rfl | exact At.own' (i := 4) rfl rfl) rfl ?_
          refine TL.build hF rfl (r := WV (rs[i]'(by omega))) (fun w => by kernel_rfl) rfl ?_
          refine TL.makeInterfaceR hF rfl (r := .iface 103 (WV (rs[i]'(by omega)))) (fun w => by kernel_rfl) rfl ?_
          refine TL.assign hF rfl rfl ?_
          refine TL.nil ?_
          refine TQ.then_n ?_
          refine T.seq ?_
          refine T.region ?_
          refine TL.move hF rfl rfl ?_
          refine TL.move hF rfl rfl ?_
          have hil : i < rs.length := by omega
          have hbr := hr.body rs[i] (List.getElem_mem _)
          refine TL.invokeM hF rfl rfl (g := 88) (rcv := WV rs[i]) (fun w => by kernel_rfl) (clear_fn rels hbr (hbl _ (List.getElem_mem _))) rfl (fun hc0 v43 => ?_) (fun hc0 => ?_)
          · 
            refine TL.nil ?_
            refine TQ.then_n ?_
            refine T.seq ?_
            refine T.region ?_
            refine TL.fieldAddr hF rfl rfl ?_
            refine TL.fieldAddr hF rfl rfl ?_
            refine TL.load hF rfl (by first | exact At.own' (i := 0) rfl rfl | exact At.own' (i := 1) rfl rfl | exact At.own' (i := 2) rfl rfl | exact At.own' (i := 3) rfl rfl | exact At.own' (i := 4) rfl rfl) rfl ?_
            refine TL.len hF rfl rfl ?_
            refine TL.move hF rfl rfl ?_
            refine TL.nil ?_
            refine TQ.then_n ?_
            refine T.block ?_
            have hbody := checkR_body hc0
            refine T.hsub ([(b7, .cells (rs[i].cells.toArray) 53 (0, 0))] :: wseg b26 b24 rels :: [(b24, .map es clock)] :: η) (List.Sublist.refl _) ?_
            refine T.loop (ι := Nat × Array MapEntry × Nat × List ((Int × Int) × Bool)) (fun j => j.1 ≤ rs[i].body.length ∧ MObj KU Value.bool j.2.2.2 j.2.1 j.2.2.1 ∧ WOk (usesP rs i j.1) j.2.2.2) (fun j => [(0, .int .i64 rels), (1, .slice p rs.length c), (5, .pointer (some ⟨b26, 0, none⟩)), (27, .slice p rs.length c), (28, .int .i64 (rs.length : Int)), (29, .int .i64 (i : Int)), (7, .pointer (some ⟨b7, 0, none⟩)), (46, .slice rs[i].ba rs[i].body.length rs[i].bc), (47, .int .i64 (rs[i].body.length : Int)), (48, .int .i64 (j.1 : Int))]) (fun j => [(b7, .cells (rs[i].cells.toArray) 53 (0, 0))] :: wseg b26 b24 rels :: [(b24, .map j.2.1 j.2.2.1)] :: η) (fun j => rs[i].body.length - j.1) (0, es, clock, m) ⟨Nat.zero_le _, hm, by rw [usesP_zero]; exact hw⟩ ⟨rfl, rfl, rfl, rfl, rfl, rfl, rfl, rfl, rfl, rfl, trivial⟩ rfl ?_
            rintro ⟨j, es, clock, m⟩ ⟨hj, hm, hw⟩
            simp only at hj hm hw
            refine T.seq ?_
            refine T.region ?_
            refine TL.bin hF rfl rfl rfl rfl ?_
            refine TL.nil ?_
            refine TQ.then_n ?_
            refine T.seq ?_
            first | refine T.cond_d rfl (fun ht49 => ?_) (fun ht49 => ?_) | refine T.cond _ rfl (fun ht49 => ?_) (fun ht49 => ?_)
            · refine T.skip ?_
              refine TQ.then_n ?_
              refine T.seq ?_
              refine T.block ?_
              refine T.seq ?_
              refine T.region ?_
              refine TL.indexAddr hF rfl rfl (bodyAd hbr (j := j) (by omega)) (by omega) (by omega) rfl ?_
              refine TL.loadA hF rs[i].body[j].cells rfl rfl (bodyA hbr (j := j) (by omega)) rfl ?_
              refine TL.alloc hF rfl (fun b10 => ?_)
              refine TL.storeAI hF rs[i].body[j].cells 0 rfl rfl rfl rfl (by simp [AtomD.cells, Value.oneCell']) (by simp [Value.cells, acells_len]) ?_
              refine TL.nil ?_
              refine TQ.then_n ?_
              refine T.seq ?_
              refine T.region ?_
              refine TL.fieldAddr hF rfl rfl ?_
              refine TL.load hF rfl (by first | exact At.own' (i := 0) rfl rfl | exact At.own' (i := 1) rfl rfl | exact At.own' (i := 2) rfl rfl | exact At.own' (i := 3) rfl rfl | exact At.own' (i := 4) rfl rfl) rfl ?_
              refine TL.fieldAddr hF rfl rfl ?_
              refine TL.load hF rfl (by first | exact At.own' (i := 0) rfl rfl | exact At.own' (i := 1) rfl rfl | exact At.own' (i := 2) rfl rfl | exact At.own' (i := 3) rfl rfl | exact At.own' (i := 4) rfl rfl) rfl ?_
              refine TL.build hF rfl (r := KU (rs[i].head, rs[i].body[j].rel)) (fun w => by kernel_rfl) rfl ?_
              refine TL.alloc hF rfl (fun b11 => ?_)
              refine TL.storeAI hF [.int .i64 rs[i].head, .int .i64 rs[i].body[j].rel] 0 rfl rfl rfl rfl (by simp [Value.oneCell']) (by simp [Value.cells]) ?_
              refine TL.nil ?_
              refine TQ.then_n ?_
              cases hc : (mget (rs[i].head, rs[i].body[j].rel) m).getD false
              · refine T.draw ?_
                refine DR.stepV [_] rfl [(5, _, none)] rfl rfl ⟨⟨rfl, by kernel_rfl⟩, trivial⟩ (fun ext => TL.move hF rfl rfl TL.fin) ?_
                refine DR.stepV [_, _] rfl [(57, _, some 0)] rfl rfl ⟨⟨rfl, rfl, rfl⟩, trivial⟩ (fun ext => TL.nilCheck hF rfl rfl TL.fin) ?_
                refine DR.stepV [_, _, _] rfl [(58, _, some 1)] rfl rfl ⟨⟨rfl, rfl, rfl⟩, trivial⟩ (fun ext => TL.fieldAddr hF rfl rfl TL.fin) ?_
                refine DR.stepV [_, _, _, _] rfl [(59, _, some 2)] rfl rfl ⟨⟨rfl, rfl, rfl⟩, trivial⟩ (fun ext => TL.load hF rfl (by first | exact At.own' (i := 0) rfl rfl | exact At.own' (i := 1) rfl rfl | exact At.own' (i := 2) rfl rfl | exact At.own' (i := 3) rfl rfl | exact At.own' (i := 4) rfl rfl) rfl TL.fin) ?_
                refine DR.stepV [_, _, _, _, _] rfl [(11, _, none)] rfl rfl ⟨⟨rfl, by kernel_rfl⟩, trivial⟩ (fun ext => TL.loadA hF [.int .i64 rs[i].head, .int .i64 rs[i].body[j].rel] rfl rfl (own_list (i := 0) rfl) rfl TL.fin) ?_
                refine DR.stepV [_, _, _, _, _, _] rfl [(5, _, none)] rfl rfl ⟨⟨rfl, by kernel_rfl⟩, trivial⟩ (fun ext => TL.move hF rfl rfl TL.fin) ?_
                refine DR.stepV [_, _, _, _, _, _, _] rfl [(62, _, some 5)] rfl rfl ⟨⟨rfl, rfl, rfl⟩, trivial⟩ (fun ext => TL.nilCheck hF rfl rfl TL.fin) ?_
                refine DR.stepV [_, _, _, _, _, _, _, _] rfl [(63, _, some 6)] rfl rfl ⟨⟨rfl, rfl, rfl⟩, trivial⟩ (fun ext => TL.fieldAddr hF rfl rfl TL.fin) ?_
                refine DR.stepV [_, _, _, _, _, _, _, _, _] rfl [(64, _, some 7)] rfl rfl ⟨⟨rfl, rfl, rfl⟩, trivial⟩ (fun ext => TL.load hF rfl (by first | exact At.own' (i := 0) rfl rfl | exact At.own' (i := 1) rfl rfl | exact At.own' (i := 2) rfl rfl | exact At.own' (i := 3) rfl rfl | exact At.own' (i := 4) rfl rfl) rfl TL.fin) ?_
                refine DR.stepV [_, _, _, _, _, _, _, _, _, _] rfl [(11, _, none)] rfl rfl ⟨⟨rfl, by kernel_rfl⟩, trivial⟩ (fun ext => TL.loadA hF [.int .i64 rs[i].head, .int .i64 rs[i].body[j].rel] rfl rfl (own_list (i := 0) rfl) rfl TL.fin) ?_
                refine DR.stepV [_, _, _, _, _, _, _, _, _, _, _] rfl [(65, _, some 8), (66, _, some 9)] rfl rfl ⟨⟨rfl, rfl, rfl⟩, ⟨rfl, rfl, rfl⟩, trivial⟩ (fun ext => TL.lookupB hF (K := KU) (rs[i].head, rs[i].body[j].rel) rfl rfl (by simp) hm rfl TL.fin) ?_
                refine DR.stepV [_, _, _, _, _, _, _, _, _, _, _, _] rfl [(67, _, some 10)] rfl rfl ⟨⟨rfl, rfl, rfl⟩, trivial⟩ (fun ext => TL.move hF rfl rfl TL.fin) ?_
                refine DR.stepV [_, _, _, _, _, _, _, _, _, _, _, _, _] rfl [(10, _, none), (68, _, some 11)] rfl rfl ⟨⟨rfl, by kernel_rfl⟩, ⟨rfl, rfl, rfl⟩, trivial⟩ (fun ext => TL.on rfl rfl rfl hc <| TL.fieldAddr hF rfl rfl TL.fin) ?_
                refine DR.stepV [_, _, _, _, _, _, _, _, _, _, _, _, _, _] rfl [(69, _, some 12), (68, _, some 11)] rfl rfl ⟨⟨rfl, rfl, rfl⟩, ⟨rfl, rfl, rfl⟩, trivial⟩ (fun ext => TL.on rfl rfl rfl hc <| TL.load hF rfl (by first | exact At.own' (i := 0) rfl rfl | exact At.own' (i := 1) rfl rfl | exact At.own' (i := 2) rfl rfl | exact At.own' (i := 3) rfl rfl | exact At.own' (i := 4) rfl rfl) rfl TL.fin) ?_
                refine DR.stepV [_, _, _, _, _, _, _, _, _, _, _, _, _, _, _] rfl [(68, _, some 11), (70, _, some 13)] rfl rfl ⟨⟨rfl, rfl, rfl⟩, ⟨rfl, rfl, rfl⟩, trivial⟩ (fun ext => TL.pickF hF rfl hc rfl rfl TL.fin) ?_
                refine DR.done [(71, _), (70, _), (69, _), (68, _), (67, _), (66, _), (65, _), (64, _), (63, _), (62, _), (61, _), (60, _), (59, _), (58, _), (57, _)] [_] mixed (by kernel_rfl) (by kernel_rfl) (by kernel_rfl) rfl rfl ?_
                refine TL.mapUpdate hF 4 Value.bool (K := KU) (rs[i].head, rs[i].body[j].rel) rs[i].body[j].neg rfl rfl rfl rfl hm (fun es2 clock2 hm2 => ?_)
                refine TL.nil ?_
                refine TQ.block_n ?_
                refine TQ.then_n ?_
                refine T.region ?_
                refine TL.add hF rfl rfl (by omega) (by omega) rfl ?_
                refine TL.move hF rfl rfl ?_
                refine TL.nil ?_
                refine TQ.pop ?_
                refine TQ.pop ?_
                refine TQ.round (j + 1, es2, clock2, mput (rs[i].head, rs[i].body[j].rel) rs[i].body[j].neg m) ⟨by simp only; omega, hm2, ?_⟩ (by simp only; omega) ⟨rfl, rfl, rfl, rfl, rfl, rfl, rfl, rfl, rfl, rfl, trivial⟩ rfl
                have h3 := hw.put (fun a b h => usesP_le h) rs[i].head rs[i].body[j].rel rs[i].body[j].neg (fun a b dn => usesP_succ hil (by omega) a b dn)
                rw [hc] at h3; simpa using h3
              · refine T.draw ?_
                refine DR.stepV [_] rfl [(5, _, none)] rfl rfl ⟨⟨rfl, by kernel_rfl⟩, trivial⟩ (fun ext => TL.move hF rfl rfl TL.fin) ?_
                refine DR.stepV [_, _] rfl [(57, _, some 0)] rfl rfl ⟨⟨rfl, rfl, rfl⟩, trivial⟩ (fun ext => TL.nilCheck hF rfl rfl TL.fin) ?_
                refine DR.stepV [_, _, _] rfl [(58, _, some 1)] rfl rfl ⟨⟨rfl, rfl, rfl⟩, trivial⟩ (fun ext => TL.fieldAddr hF rfl rfl TL.fin) ?_
                refine DR.stepV [_, _, _, _] rfl [(59, _, some 2)] rfl rfl ⟨⟨rfl, rfl, rfl⟩, trivial⟩ (fun ext => TL.load hF rfl (by first | exact At.own' (i := 0) rfl rfl | exact At.own' (i := 1) rfl rfl | exact At.own' (i := 2) rfl rfl | exact At.own' (i := 3) rfl rfl | exact At.own' (i := 4) rfl rfl) rfl TL.fin) ?_
                refine DR.stepV [_, _, _, _, _] rfl [(11, _, none)] rfl rfl ⟨⟨rfl, by kernel_rfl⟩, trivial⟩ (fun ext => TL.loadA hF [.int .i64 rs[i].head, .int .i64 rs[i].body[j].rel] rfl rfl (own_list (i := 0) rfl) rfl TL.fin) ?_
                refine DR.stepV [_, _, _, _, _, _] rfl [(5, _, none)] rfl rfl ⟨⟨rfl, by kernel_rfl⟩, trivial⟩ (fun ext => TL.move hF rfl rfl TL.fin) ?_
                refine DR.stepV [_, _, _, _, _, _, _] rfl [(62, _, some 5)] rfl rfl ⟨⟨rfl, rfl, rfl⟩, trivial⟩ (fun ext => TL.nilCheck hF rfl rfl TL.fin) ?_
                refine DR.stepV [_, _, _, _, _, _, _, _] rfl [(63, _, some 6)] rfl rfl ⟨⟨rfl, rfl, rfl⟩, trivial⟩ (fun ext => TL.fieldAddr hF rfl rfl TL.fin) ?_
                refine DR.stepV [_, _, _, _, _, _, _, _, _] rfl [(64, _, some 7)] rfl rfl ⟨⟨rfl, rfl, rfl⟩, trivial⟩ (fun ext => TL.load hF rfl (by first | exact At.own' (i := 0) rfl rfl | exact At.own' (i := 1) rfl rfl | exact At.own' (i := 2) rfl rfl | exact At.own' (i := 3) rfl rfl | exact At.own' (i := 4) rfl rfl) rfl TL.fin) ?_
                refine DR.stepV [_, _, _, _, _, _, _, _, _, _] rfl [(11, _, none)] rfl rfl ⟨⟨rfl, by kernel_rfl⟩, trivial⟩ (fun ext => TL.loadA hF [.int .i64 rs[i].head, .int .i64 rs[i].body[j].rel] rfl rfl (own_list (i := 0) rfl) rfl TL.fin) ?_
                refine DR.stepV [_, _, _, _, _, _, _, _, _, _, _] rfl [(65, _, some 8), (66, _, some 9)] rfl rfl ⟨⟨rfl, rfl, rfl⟩, ⟨rfl, rfl, rfl⟩, trivial⟩ (fun ext => TL.lookupB hF (K := KU) (rs[i].head, rs[i].body[j].rel) rfl rfl (by simp) hm rfl TL.fin) ?_
                refine DR.stepV [_, _, _, _, _, _, _, _, _, _, _, _] rfl [(67, _, some 10)] rfl rfl ⟨⟨rfl, rfl, rfl⟩, trivial⟩ (fun ext => TL.move hF rfl rfl TL.fin) ?_
                refine DR.stepV [_, _, _, _, _, _, _, _, _, _, _, _, _] rfl [(10, _, none), (68, _, some 11)] rfl rfl ⟨⟨rfl, by kernel_rfl⟩, ⟨rfl, rfl, rfl⟩, trivial⟩ (fun ext => TL.off hF rfl rfl rfl hc rfl TL.fin) ?_
                refine DR.stepV [_, _, _, _, _, _, _, _, _, _, _, _, _, _] rfl [(69, _, some 12), (68, _, some 11)] rfl rfl ⟨⟨rfl, rfl, rfl⟩, ⟨rfl, rfl, rfl⟩, trivial⟩ (fun ext => TL.off hF rfl rfl rfl hc rfl TL.fin) ?_
                refine DR.stepV [_, _, _, _, _, _, _, _, _, _, _, _, _, _, _] rfl [(68, _, some 11), (70, _, some 13)] rfl rfl ⟨⟨rfl, rfl, rfl⟩, ⟨rfl, rfl, rfl⟩, trivial⟩ (fun ext => TL.pickT hF rfl hc rfl rfl TL.fin) ?_
                refine DR.done [(71, _), (70, _), (69, _), (68, _), (67, _), (66, _), (65, _), (64, _), (63, _), (62, _), (61, _), (60, _), (59, _), (58, _), (57, _)] [_] mixed (by kernel_rfl) (by kernel_rfl) (by kernel_rfl) rfl rfl ?_
                refine TL.mapUpdate hF 4 Value.bool (K := KU) (rs[i].head, rs[i].body[j].rel) true rfl rfl rfl rfl hm (fun es2 clock2 hm2 => ?_)
                refine TL.nil ?_
                refine TQ.block_n ?_
                refine TQ.then_n ?_
                refine T.region ?_
                refine TL.add hF rfl rfl (by omega) (by omega) rfl ?_
                refine TL.move hF rfl rfl ?_
                refine TL.nil ?_
                refine TQ.pop ?_
                refine TQ.pop ?_
                refine TQ.round (j + 1, es2, clock2, mput (rs[i].head, rs[i].body[j].rel) true m) ⟨by simp only; omega, hm2, ?_⟩ (by simp only; omega) ⟨rfl, rfl, rfl, rfl, rfl, rfl, rfl, rfl, rfl, rfl, trivial⟩ rfl
                have h3 := hw.put (fun a b h => usesP_le h) rs[i].head rs[i].body[j].rel rs[i].body[j].neg (fun a b dn => usesP_succ hil (by omega) a b dn)
                rw [hc] at h3; simpa using h3
            · refine T.exit ?_
              refine TQ.then_x ?_
              refine TQ.then_x ?_
              refine TQ.block_x ?_
              refine TQ.block_n ?_
              refine TQ.then_n ?_
              refine T.region ?_
              refine TL.add hF rfl rfl (by omega) (by omega) rfl ?_
              refine TL.move hF rfl rfl ?_
              refine TL.nil ?_
              have hjl : j = rs[i].body.length := by omega
              subst hjl
              refine TQ.pop ?_
              exact TQ.round (i + 1, es, clock, m) ⟨by simp only; omega, by rw [he, errs_drop hil, if_pos hc0], hm, by rw [usesP_full hil] at hw; exact hw⟩ (by simp only; omega) ⟨rfl, rfl, rfl, rfl, rfl, rfl, trivial⟩ rfl
          · skip
            refine TQ.then_p ?_
            refine TQ.block_p ?_
            refine TQ.then_p ?_
            refine TQ.then_p ?_
            refine TQ.block_p ?_
            refine TQ.then_p ?_
            refine TQ.hsub η (List.Sublist.cons _ (List.Sublist.cons _ (List.Sublist.cons _ (List.Sublist.refl _)))) ?_
            have e : check rels rs = checkR rels rs[i] := by rw [hck, he, errs_drop hil, if_neg hc0]
            exact TQ.panicE (by rw [e]; exact ⟨hc0, rfl, rfl⟩)
        · refine T.exit ?_
          refine TQ.then_x ?_
          refine TQ.then_x ?_
          refine TQ.block_x ?_
          refine TQ.then_n ?_
          refine T.seq ?_
          refine T.region ?_
          refine TL.move hF rfl rfl ?_
          refine TL.assign hF rfl rfl ?_
          refine TL.nil ?_
          refine TQ.then_n ?_
          refine T.ret ?_
          refine TQ.retsE [4] _ rfl rfl rfl ?_
          have hil : i = rs.length := by omega
          subst hil
          rw [List.take_length] at hw
          exact ⟨by rw [hck, he, List.drop_of_length_le (by omega)]; rfl, b26, b24, es, clock, m, rfl, rfl, hm, hw⟩
      · have hk2 : 60 < rs.length := by have := of_decide_eq_false h1; omega
        refine TQ.then_p ?_
        have e : check rels rs = 3 := by unfold check; rw [if_neg (by omega), if_neg (by omega), if_pos hk2]
        exact TQ.panicE (by rw [e]; exact ⟨by decide, rfl, rfl⟩)
    · have hk1 : 48 < rels := by simp_all
      refine TQ.then_p ?_
      have e : check rels rs = 1 := by unfold check; rw [if_neg (by omega), if_pos hk1]
      exact TQ.panicE (by rw [e]; exact ⟨by decide, rfl, rfl⟩)
  · refine TL.off hF rfl rfl rfl (decide_eq_false g1_14) rfl ?_
    refine TL.off hF rfl rfl rfl (decide_eq_false g1_14) rfl ?_
    refine TL.pickF hF rfl (decide_eq_false g1_14) rfl rfl ?_
    refine TL.callM hF (must_fn _ 1) rfl rfl (fun h1 v18 => by cases h1) (fun h1 => ?_)
    refine TQ.then_p ?_
    have e : check rels rs = 1 := by unfold check; rw [if_pos (by omega)]
    exact TQ.panicE (by rw [e]; exact ⟨by decide, rfl, rfl⟩)
end Go.Proofs.Ytdehpaikapbckaa
