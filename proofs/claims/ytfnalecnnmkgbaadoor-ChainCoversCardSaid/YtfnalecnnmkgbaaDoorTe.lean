/- Several texts in one. -/
import Derived.Test.YtfnalecnnmkgbaaDoorTd
import Derived.Test.YtfnalecnnmkgbaaDoorTc
import Derived.Test.YtfnalecnnmkgbaaDoorTb
import Derived.Test.YtfnalecnnmkgbaaDoorRows
import Derived.LaidMore
import Derived.OpenShut
import Derived.Deep.Strs
import Derived.Stop.Joined
/- The witness: by the program and by the specification. -/
namespace Go.Proofs.YtfnalecnnmkgbaaDoor
open Go.Sl
theorem pW_iff {out : List Int} {x : Int} : pW out x = true ↔ ∀ y ∈ out, apartI x y = true := by
 unfold pW
 rw [Bool.not_eq_true', Bool.eq_false_iff]
 constructor
 ·intro h y hy
  refine Decidable.byContradiction fun hn => h (List.any_eq_true.2 ⟨y, hy, ?_⟩)
  rw [Bool.not_eq_true] at hn
  rw [hn]; rfl
 ·intro h hn
  obtain ⟨y, hy, he⟩ := List.any_eq_true.1 hn
  rw [h y hy] at he; cases he
theorem pW_app {out : List Int} {s x : Int} : pW (out ++ [s]) x = (pW out x && apartI x s) := by
 rw [Bool.eq_iff_iff, Bool.and_eq_true, pW_iff, pW_iff]
 simp only [List.mem_append, List.mem_singleton]
 exact ⟨fun h => ⟨fun y hy => h y (.inl hy), h s (.inr rfl)⟩, fun h y hy => hy.elim (h.1 y) (fun e => e ▸ h.2)⟩
theorem pW_filter {out r : List Int} {s : Int} : apL (r.filter (pW out)) s = r.filter (pW (out ++ [s])) := by
 unfold apL
 rw [List.filter_filter]
 refine List.filter_congr fun x _ => ?_
 rw [pW_app, apartR_eq, Bool.and_comm]
/-- Some that are apart, with others. -/
structure Wt (L out : List Int) (n : Int) (W : List Int) : Prop where
 anti : Anti W
 sub : ∀ y ∈ W, y ∈ L
 has : ∀ y ∈ out, y ∈ W
 big : n ≤ (W.length : Int)
theorem anti_app {out A : List Int} {s : Int} (h1 : Anti out) (h2 : pW out s = true) (h3 : Anti A) (h4 : ∀ x ∈ A, pW (out ++ [s]) x = true) : Anti ((out ++ [s]) ++ A) := by
 refine List.pairwise_append.2 ⟨List.pairwise_append.2 ⟨h1, by simp, fun a ha b hb => ?_⟩, h3, fun a ha b hb => ?_⟩
 ·rw [List.mem_singleton.1 hb]; exact apartI_symm (pW_iff.1 h2 a ha)
 ·exact apartI_symm (pW_iff.1 (h4 b hb) a ha)
theorem wit_all {L : List Int} (hs : Sets L) (hn : L.Nodup) : ∀ (r pre out : List Int) (fu : Nat), L = pre ++ r → out.Sublist pre → Anti out → (∀ x ∈ pre, x ∉ out → ∀ W, Wt L out (fewN L) W → x ∉ W) → (∃ W, Wt L out (fewN L) W) → (r.filter (pW out)).length ≤ fu →
  witP (fewN L) L r out = witG (fewN L) fu (r.filter (pW out)) out ∧ Anti (witP (fewN L) L r out) ∧ (witP (fewN L) L r out).Sublist L ∧ ((witP (fewN L) L r out).length : Int) = fewN L
 | [], pre, out, fu, hL, hsub, ha, hrej, hex, _ => by
  rw [List.append_nil] at hL
  subst hL
  refine ⟨(witG_nil _ _ _).symm, ha, hsub, ?_⟩
  obtain ⟨W, hW⟩ := hex
  have h1 := anti_le hs ha fun x hx => hsub.subset hx
  have h2 := hW.anti.nodup.length_le_of_subset (l₂ := out) fun x hx => Decidable.byContradiction fun hno => hrej x (hW.sub x hx) hno W hW hx
  have h3 := hW.big
  show (out.length : Int) = _
  omega
 | s :: r, pre, out, fu, hL, hsub, ha, hrej, hex, hfu => by
  have hLn : (pre ++ s :: r).Nodup := hL ▸ hn
  obtain ⟨hpn, hrn, hdis⟩ := List.nodup_append.1 hLn
  have hsr := List.nodup_cons.1 hrn
  have hsL : s ∈ L := by rw [hL]; simp
  have hoL : ∀ y ∈ out, y ∈ L := fun y hy => by rw [hL]; exact List.mem_append_left _ (hsub.subset hy)
  have hso : s ∉ out := fun h => hdis s (hsub.subset h) s List.mem_cons_self rfl
  have hL2 : L = (pre ++ [s]) ++ r := by rw [hL]; simp
  by_cases hp : pW out s = true
  ·rw [List.filter_cons, if_pos hp, List.length_cons] at hfu
   rw [List.filter_cons, if_pos hp]
   obtain ⟨f, rfl⟩ : ∃ f, fu = f + 1 := ⟨fu - 1, by omega⟩
   have hstep : witG (fewN L) (f + 1) (s :: r.filter (pW out)) out = if (out.length : Int) + 1 + fewN (apL (r.filter (pW out)) s) = fewN L then witG (fewN L) f (apL (r.filter (pW out)) s) (out ++ [s]) else witG (fewN L) f (r.filter (pW out)) out := rfl
   have hpst : witP (fewN L) L (s :: r) out = if pW out s = true ∧ fewN L ≤ ((out.length : Int) + 1) + fewN (L.filter (pW (out ++ [s]))) then witP (fewN L) L r (out ++ [s]) else witP (fewN L) L r out := rfl
   rw [hstep, hpst, pW_filter]
   have hR'n : (r.filter (pW (out ++ [s]))).Nodup := hsr.2.filter _
   have hRn : (L.filter (pW (out ++ [s]))).Nodup := hn.filter _
   have hRs : Sets (L.filter (pW (out ++ [s]))) := fun x hx => hs x (List.mem_filter.1 hx).1
   have hRR : ∀ x ∈ r.filter (pW (out ++ [s])), x ∈ L.filter (pW (out ++ [s])) := fun x hx => by
    have h := List.mem_filter.1 hx
    exact List.mem_filter.2 ⟨by rw [hL]; exact List.mem_append_right _ (List.mem_cons_of_mem _ h.1), h.2⟩
   have hmono := fewN_mono hR'n hRs hRR
   obtain ⟨A, hA1, hA2, hA3⟩ := anti_ex hRn
   have hWA := anti_app ha hp hA1 (fun x hx => (List.mem_filter.1 (hA2 x hx)).2)
   have hWL : ∀ x ∈ (out ++ [s]) ++ A, x ∈ L := fun x hx => by
    rcases List.mem_append.1 hx with h | h
    ·rcases List.mem_append.1 h with h | h
     ·exact hoL x h
     ·rw [List.mem_singleton.1 h]; exact hsL
    ·exact (List.mem_filter.1 (hA2 x h)).1
   have hWle := anti_le hs hWA hWL
   have hWlen : (((out ++ [s]) ++ A).length : Int) = (out.length : Int) + 1 + (A.length : Int) := by simp; omega
   by_cases hc : fewN L ≤ ((out.length : Int) + 1) + fewN (L.filter (pW (out ++ [s])))
   ·have hW : Wt L (out ++ [s]) (fewN L) ((out ++ [s]) ++ A) := ⟨hWA, hWL, fun y hy => List.mem_append_left _ hy, by omega⟩
    have hW0 : Wt L out (fewN L) ((out ++ [s]) ++ A) := ⟨hWA, hWL, fun y hy => List.mem_append_left _ (List.mem_append_left _ hy), by omega⟩
    have hAR : ∀ x ∈ A, x ∈ r.filter (pW (out ++ [s])) := fun x hx => by
     have h := List.mem_filter.1 (hA2 x hx)
     refine List.mem_filter.2 ⟨?_, h.2⟩
     have hx1 := pW_iff.1 h.2
     rw [hL] at h
     rcases List.mem_append.1 h.1 with q | q
     ·exfalso
      refine hrej x q (fun ho => apartI_ne (hx1 x (List.mem_append_left _ ho)) rfl) _ hW0 (List.mem_append_right _ hx)
     ·rcases List.mem_cons.1 q with q | q
      ·exact (apartI_ne (hx1 s (by simp)) q).elim
      ·exact q
    have hAl := anti_le (fun x hx => hRs x (hRR x hx)) hA1 hAR
    have heq : (out.length : Int) + 1 + fewN (r.filter (pW (out ++ [s]))) = fewN L := by
     obtain ⟨B, hB1, hB2, hB3⟩ := anti_ex hR'n
     have hWB := anti_app ha hp hB1 (fun x hx => (List.mem_filter.1 (hB2 x hx)).2)
     have h4 := anti_le hs hWB (fun x hx => by
      rcases List.mem_append.1 hx with h | h
      ·exact hWL x (List.mem_append_left _ h)
      ·exact (List.mem_filter.1 (hRR x (hB2 x h))).1)
     have h5 : (((out ++ [s]) ++ B).length : Int) = (out.length : Int) + 1 + (B.length : Int) := by simp; omega
     omega
    rw [if_pos ⟨hp, hc⟩, if_pos heq]
    refine wit_all hs hn r (pre ++ [s]) (out ++ [s]) f hL2 (hsub.append (List.Sublist.refl _)) ?_ (fun x hx hxo W hw => ?_) ⟨_, hW⟩ ?_
    ·exact List.pairwise_append.2 ⟨ha, by simp, fun a ha2 b hb => by rw [List.mem_singleton.1 hb]; exact apartI_symm (pW_iff.1 hp a ha2)⟩
    ·rcases List.mem_append.1 hx with h | h
     ·exact hrej x h (fun q => hxo (List.mem_append_left _ q)) W ⟨hw.anti, hw.sub, fun y hy => hw.has y (List.mem_append_left _ hy), hw.big⟩
     ·exact (hxo (List.mem_append_right _ h)).elim
    ·have h1 : (r.filter (pW (out ++ [s]))).length ≤ (r.filter (pW out)).length := by
      rw [← pW_filter]; exact List.length_filter_le _ _
     omega
   ·rw [if_neg (fun h => hc h.2), if_neg (by omega)]
    refine wit_all hs hn r (pre ++ [s]) out f hL2 (hsub.trans (List.sublist_append_left _ _)) ha (fun x hx hxo W hw hxW => ?_) hex (by omega)
    rcases List.mem_append.1 hx with h | h
    ·exact hrej x h hxo W hw hxW
    ·rw [List.mem_singleton.1 h] at hxW
     refine hc ?_
     have hAa : Anti (W.filter fun y => decide (y ∉ out ++ [s])) := hw.anti.filter _
     have hAs : ∀ y ∈ (W.filter fun y => decide (y ∉ out ++ [s])), y ∈ L.filter (pW (out ++ [s])) := fun y hy => by
      have h := List.mem_filter.1 hy
      have h2 := of_decide_eq_true h.2
      refine List.mem_filter.2 ⟨hw.sub y h.1, pW_iff.2 fun z hz => hw.anti.get h.1 ?_ (fun e => h2 (e ▸ hz))⟩
      rcases List.mem_append.1 hz with q | q
      ·exact hw.has z q
      ·rw [List.mem_singleton.1 q]; exact hxW
     have h3 := anti_le hRs hAa hAs
     have h4 := hw.anti.nodup.length_le_of_subset (l₂ := (out ++ [s]) ++ (W.filter fun y => decide (y ∉ out ++ [s]))) (fun y hy => by
      by_cases q : y ∈ out ++ [s]
      ·exact List.mem_append_left _ q
      ·exact List.mem_append_right _ (List.mem_filter.2 ⟨hy, decide_eq_true q⟩))
     rw [List.length_append, List.length_append, List.length_singleton] at h4
     have h5 := hw.big
     omega
  ·rw [List.filter_cons, if_neg hp] at hfu
   have hpst : witP (fewN L) L (s :: r) out = if pW out s = true ∧ fewN L ≤ ((out.length : Int) + 1) + fewN (L.filter (pW (out ++ [s]))) then witP (fewN L) L r (out ++ [s]) else witP (fewN L) L r out := rfl
   rw [List.filter_cons, if_neg hp, hpst, if_neg (fun h => hp h.1)]
   refine wit_all hs hn r (pre ++ [s]) out fu hL2 (hsub.trans (List.sublist_append_left _ _)) ha (fun x hx hxo W hw hxW => ?_) hex hfu
   rcases List.mem_append.1 hx with h | h
   ·exact hrej x h hxo W hw hxW
   ·rw [List.mem_singleton.1 h] at hxW
    exact hp (pW_iff.2 fun y hy => hw.anti.get hxW (hw.has y hy) (fun e => hso (e ▸ hy)))
theorem pW_nil (l : List Int) : l.filter (pW []) = l := List.filter_eq_self.2 fun x _ => pW_iff.2 fun y hy => by simp at hy
theorem wit_same {L : List Int} (hs : Sets L) (hn : L.Nodup) : witP (fewN L) L L [] = witG (fewN L) L.length L [] ∧ Anti (witP (fewN L) L L []) ∧ (witP (fewN L) L L []).Sublist L ∧ ((witP (fewN L) L L []).length : Int) = fewN L := by
 obtain ⟨W, h1, h2, h3⟩ := anti_ex hn
 have h := wit_all hs hn L [] [] L.length rfl (List.Sublist.refl _) List.Pairwise.nil (by simp) ⟨W, h1, h2, by simp, h3⟩ (List.length_filter_le _ _)
 rw [pW_nil] at h
 exact h
theorem witness_same (cols : Int) (l : List Int) : witnessP cols l = witnessS cols l := by
 unfold witnessP witnessS
 by_cases h : checkE cols l = 0
 ·rw [if_pos h, if_pos h]
  have hR := ris_ok h
  rw [(wit_same hR.sets hR.up.nodup).1]
 ·rw [if_neg h, if_neg h]
end Go.Proofs.YtfnalecnnmkgbaaDoor
/- What all laws end with. -/
namespace Go.Proofs.YtfnalecnnmkgbaaDoor
open Go.Sl
variable {S : Nat → Prop} {w0 : World} {η : Heap}
theorem ResT.lit {r : List Int × Int} {η' : Heap} {v : Value} {L : List Int} {k : Int} (h : ResT S w0 r η v η') (e : r = (L, k)) : ∃ a cap segs, v = .tuple #[.slice a L.length cap, .int .i64 k] ∧ Row S w0 segs a (ints L) ∧ η' = segs ++ η := by subst e; exact h
theorem ResL.lit {r : List (List Int) × Int} {η' : Heap} {v : Value} {L : List (List Int)} {k : Int} (h : ResL S w0 r η v η') (e : r = (L, k)) : ∃ a cap ps segs, v = .tuple #[.slice a ps.length cap, .int .i64 k] ∧ tx ps = L ∧ LL S w0 segs a ps ∧ η' = segs ++ η := by subst e; exact h
theorem EqL_lit {a b : Option Addr} {ps qs : List HL} {c d : Nat} {L : List Tm} (hx : LL S w0 η a ps) (hy : LL S w0 η b qs) (he : tx ps = L) (hq : tx qs = L) (h1 : L.length < 2 ^ 63) (h2 : ∀ x ∈ L, x.length < 2 ^ 63) : Rt Tryd.prog 22 [.slice a ps.length c, .slice b qs.length d].toArray S w0 η (fun v η' => v = .bool true ∧ η' = η) := by
 have h := EqualLists_fn (ca := c) (cb := d) hx hy (by have := congrArg List.length he; rw [tx_len] at this; omega) (fun p hp => h2 _ (he ▸ List.mem_map_of_mem hp))
 rw [decide_eq_true (he.trans hq.symm)] at h
 exact h
theorem Eq_same {a b : Option Addr} {xs : List Int} {c d : Nat} (hx : Row S w0 η a (ints xs)) (hy : Row S w0 η b (ints xs)) (hl : xs.length < 2 ^ 63) : Rt Tryd.prog 23 [.slice a xs.length c, .slice b xs.length d].toArray S w0 η (fun v η' => v = .bool true ∧ η' = η) := by
 have h := Equal_fn (ca := c) (cb := d) hx hy hl
 rw [decide_eq_true rfl] at h
 exact h
set_option maxHeartbeats 2000000 in
theorem awake_fn (hg : Kinds S w0) :
  Rt Tryd.prog 11 #[] S w0 [] (fun v _ => v = .bool true) := by
 have hF := open_wide
 refine Rt.of (fn := Tryd.f11) Tryd.func11 rfl rfl ?_
 refine T.seq ?_
 refine T.region ?_
 refine TL.assign hF rfl rfl ?_
 refine TL.nil ?_
 refine TQ.then_n ?_
 refine T.seq ?_
 refine T.region ?_
 have hb := Back.refl S w0
 refine TL.buildSlice hF rfl (cs := #[.int .i64 1, .int .i64 2, .int .i64 3, .int .i64 7]) (e := 3) (fun w => by kernel_rfl) rfl (fun b14 => ?_)
 refine TL.assign hF rfl rfl ?_
 refine TL.nil ?_
 refine TQ.then_n ?_
 refine T.seq ?_
 refine T.region ?_
 refine TL.move hF rfl rfl ?_
 refine TL.freeze ([[(b14, Obj.cells #[.int .i64 1, .int .i64 2, .int .i64 3, .int .i64 7] 3 (0, 0))]]) rfl (fun S1 w1 hz1 => ?_)
 replace hb := hb.frz hz1
 replace hg := hg.old hz1
 have h14 : Row S1 w1 [] (some ⟨b14, 0, none⟩) (ints [1, 2, 3, 7]) := (row_own (η := [[(b14, Obj.cells #[.int .i64 1, .int .i64 2, .int .i64 3, .int .i64 7] 3 (0, 0))]]) (cs := [.int .i64 1, .int .i64 2, .int .i64 3, .int .i64 7]) (e := 3) (by simp)).frz hz1
 refine TL.call hF (Fewest_prog (l := [1, 2, 3, 7]) 3 h14 (by decide) (by decide) hg) rfl rfl ?_
 rintro _ _ ⟨rfl, segs, rfl⟩
 rw [show fewestS 3 [1, 2, 3, 7] = (2, 0) by decide +kernel]
 refine TL.hsub _ (List.sublist_append_right _ _) ?_
 refine TL.move hF rfl rfl ?_
 refine TL.extract hF rfl rfl rfl ?_
 refine TL.extract hF rfl rfl rfl ?_
 refine TL.assign hF rfl rfl ?_
 refine TL.assign hF rfl rfl ?_
 refine TL.nil ?_
 refine TQ.then_n ?_
 refine T.seq ?_
 refine T.region ?_
 refine TL.move hF rfl rfl ?_
 refine TL.call hF (Chains_prog (l := [1, 2, 3, 7]) 3 h14 (by decide) (by decide) hg) rfl rfl ?_
 rintro _ _ h
 obtain ⟨a4, c4, p4, segs, rfl, t4, h4, rfl⟩ := h.lit (show chainsS 3 [1, 2, 3, 7] = ([[1, 3], [2, 7]], 0) by decide +kernel)
 refine TL.freeze (segs) rfl (fun S2 w2 hz2 => ?_)
 replace hb := hb.frz hz2
 replace hg := hg.old hz2
 replace h14 := h14.old hz2
 replace h4 := h4.frz hz2
 refine TL.move hF rfl rfl ?_
 refine TL.extract hF rfl rfl rfl ?_
 refine TL.extract hF rfl rfl rfl ?_
 refine TL.assign hF rfl rfl ?_
 refine TL.assign hF rfl rfl ?_
 refine TL.nil ?_
 refine TQ.then_n ?_
 refine T.seq ?_
 refine T.region ?_
 refine TL.move hF rfl rfl ?_
 refine TL.call hF (Orders_prog (l := [1, 2, 3, 7]) 3 h14 (by decide) (by decide) hg) rfl rfl ?_
 rintro _ _ h
 obtain ⟨a6, c6, p6, segs, rfl, t6, h6, rfl⟩ := h.lit (show ordersS 3 [1, 2, 3, 7] = ([[0, 1, 2], [1, 0, 2]], 0) by decide +kernel)
 refine TL.freeze (segs) rfl (fun S3 w3 hz3 => ?_)
 replace hb := hb.frz hz3
 replace hg := hg.old hz3
 replace h14 := h14.old hz3
 replace h4 := h4.old hz3
 replace h6 := h6.frz hz3
 refine TL.move hF rfl rfl ?_
 refine TL.extract hF rfl rfl rfl ?_
 refine TL.extract hF rfl rfl rfl ?_
 refine TL.assign hF rfl rfl ?_
 refine TL.assign hF rfl rfl ?_
 refine TL.nil ?_
 refine TQ.then_n ?_
 refine T.seq ?_
 refine T.region ?_
 refine TL.move hF rfl rfl ?_
 refine TL.call hF (Witness_prog (l := [1, 2, 3, 7]) 3 h14 (by decide) (by decide) hg) rfl rfl ?_
 rintro _ _ h
 obtain ⟨a8, c8, segs, rfl, h8, rfl⟩ := h.lit (show witnessP 3 [1, 2, 3, 7] = ([1, 2], 0) by decide +kernel)
 refine TL.freeze (segs) rfl (fun S4 w4 hz4 => ?_)
 replace hb := hb.frz hz4
 replace hg := hg.old hz4
 replace h14 := h14.old hz4
 replace h4 := h4.old hz4
 replace h6 := h6.old hz4
 replace h8 := h8.frz hz4
 refine TL.move hF rfl rfl ?_
 refine TL.extract hF rfl rfl rfl ?_
 refine TL.extract hF rfl rfl rfl ?_
 refine TL.assign hF rfl rfl ?_
 refine TL.assign hF rfl rfl ?_
 refine TL.nil ?_
 refine TQ.then_n ?_
 refine T.seq ?_
 refine T.region ?_
 refine TL.buildSlice hF rfl (cs := #[.int .i64 1, .int .i64 0, .int .i64 2]) (e := 3) (fun w => by kernel_rfl) rfl (fun b36 => ?_)
 refine TL.freeze ([[(b36, Obj.cells #[.int .i64 1, .int .i64 0, .int .i64 2] 3 (0, 0))]]) rfl (fun S5 w5 hz5 => ?_)
 replace hb := hb.frz hz5
 replace hg := hg.old hz5
 replace h4 := h4.old hz5
 replace h6 := h6.old hz5
 replace h8 := h8.old hz5
 have h36 : Row S5 w5 [] (some ⟨b36, 0, none⟩) (ints [1, 0, 2]) := (row_own (η := [[(b36, Obj.cells #[.int .i64 1, .int .i64 0, .int .i64 2] 3 (0, 0))]]) (cs := [.int .i64 1, .int .i64 0, .int .i64 2]) (e := 3) (by simp)).frz hz5
 refine TL.call hF (Serves_prog (l := [1, 0, 2]) 3 h36 (by decide) (by decide)) rfl rfl ?_
 rintro _ _ ⟨rfl, segs, rfl⟩
 rw [show servesS [1, 0, 2] 3 = (true, 0) by decide +kernel]
 refine TL.hsub _ (List.sublist_append_right _ _) ?_
 refine TL.move hF rfl rfl ?_
 refine TL.extract hF rfl rfl rfl ?_
 refine TL.extract hF rfl rfl rfl ?_
 refine TL.assign hF rfl rfl ?_
 refine TL.assign hF rfl rfl ?_
 refine TL.nil ?_
 refine TQ.then_n ?_
 refine T.seq ?_
 refine T.region ?_
 refine TL.buildSlice hF rfl (cs := #[.int .i64 1, .int .i64 0, .int .i64 2]) (e := 3) (fun w => by kernel_rfl) rfl (fun b41 => ?_)
 refine TL.freeze ([[(b41, Obj.cells #[.int .i64 1, .int .i64 0, .int .i64 2] 3 (0, 0))]]) rfl (fun S6 w6 hz6 => ?_)
 replace hb := hb.frz hz6
 replace hg := hg.old hz6
 replace h4 := h4.old hz6
 replace h6 := h6.old hz6
 replace h8 := h8.old hz6
 have h41 : Row S6 w6 [] (some ⟨b41, 0, none⟩) (ints [1, 0, 2]) := (row_own (η := [[(b41, Obj.cells #[.int .i64 1, .int .i64 0, .int .i64 2] 3 (0, 0))]]) (cs := [.int .i64 1, .int .i64 0, .int .i64 2]) (e := 3) (by simp)).frz hz6
 refine TL.call hF (Serves_prog (l := [1, 0, 2]) 1 h41 (by decide) (by decide)) rfl rfl ?_
 rintro _ _ ⟨rfl, segs, rfl⟩
 rw [show servesS [1, 0, 2] 1 = (false, 0) by decide +kernel]
 refine TL.hsub _ (List.sublist_append_right _ _) ?_
 refine TL.move hF rfl rfl ?_
 refine TL.extract hF rfl rfl rfl ?_
 refine TL.extract hF rfl rfl rfl ?_
 refine TL.assign hF rfl rfl ?_
 refine TL.assign hF rfl rfl ?_
 refine TL.nil ?_
 refine TQ.then_n ?_
 refine T.seq ?_
 refine T.region ?_
 refine TL.move hF rfl rfl ?_
 refine TL.bin hF rfl rfl rfl rfl ?_
 refine TL.move hF rfl rfl ?_
 refine TL.on rfl rfl rfl rfl ?_
 refine TL.move hF rfl rfl ?_
 refine TL.on rfl rfl rfl rfl ?_
 refine TL.move hF rfl rfl ?_
 refine TL.on rfl rfl rfl rfl ?_
 refine TL.bin hF rfl rfl rfl rfl ?_
 refine TL.pickT hF rfl rfl rfl rfl ?_
 refine TL.move hF rfl rfl ?_
 refine TL.on rfl rfl rfl rfl ?_
 refine TL.move hF rfl rfl ?_
 refine TL.on rfl rfl rfl rfl ?_
 refine TL.move hF rfl rfl ?_
 refine TL.on rfl rfl rfl rfl ?_
 refine TL.bin hF rfl rfl rfl rfl ?_
 refine TL.pickT hF rfl rfl rfl rfl ?_
 refine TL.move hF rfl rfl ?_
 refine TL.on rfl rfl rfl rfl ?_
 refine TL.move hF rfl rfl ?_
 refine TL.on rfl rfl rfl rfl ?_
 refine TL.move hF rfl rfl ?_
 refine TL.on rfl rfl rfl rfl ?_
 refine TL.bin hF rfl rfl rfl rfl ?_
 refine TL.pickT hF rfl rfl rfl rfl ?_
 refine TL.move hF rfl rfl ?_
 refine TL.on rfl rfl rfl rfl ?_
 refine TL.move hF rfl rfl ?_
 refine TL.on rfl rfl rfl rfl ?_
 refine TL.move hF rfl rfl ?_
 refine TL.on rfl rfl rfl rfl ?_
 refine TL.bin hF rfl rfl rfl rfl ?_
 refine TL.pickT hF rfl rfl rfl rfl ?_
 refine TL.move hF rfl rfl ?_
 refine TL.on rfl rfl rfl rfl ?_
 refine TL.move hF rfl rfl ?_
 refine TL.on rfl rfl rfl rfl ?_
 refine TL.move hF rfl rfl ?_
 refine TL.on rfl rfl rfl rfl ?_
 refine TL.bin hF rfl rfl rfl rfl ?_
 refine TL.pickT hF rfl rfl rfl rfl ?_
 refine TL.move hF rfl rfl ?_
 refine TL.on rfl rfl rfl rfl ?_
 refine TL.move hF rfl rfl ?_
 refine TL.on rfl rfl rfl rfl ?_
 refine TL.bin hF rfl rfl rfl rfl ?_
 refine TL.pickT hF rfl rfl rfl rfl ?_
 refine TL.move hF rfl rfl ?_
 refine TL.on rfl rfl rfl rfl ?_
 refine TL.move hF rfl rfl ?_
 refine TL.pickT hF rfl rfl rfl rfl ?_
 refine TL.move hF rfl rfl ?_
 refine TL.on rfl rfl rfl rfl ?_
 refine TL.move hF rfl rfl ?_
 refine TL.on rfl rfl rfl rfl ?_
 refine TL.not hF rfl rfl ?_
 refine TL.pickT hF rfl rfl rfl rfl ?_
 refine TL.move hF rfl rfl ?_
 refine TL.on rfl rfl rfl rfl ?_
 refine TL.move hF rfl rfl ?_
 refine TL.on rfl rfl rfl rfl ?_
 refine TL.buildSlice hF rfl (cs := #[.int .i64 1, .int .i64 3]) (e := 3) (fun w => by kernel_rfl) rfl (fun b85 => ?_)
 refine TL.on rfl rfl rfl rfl ?_
 refine TL.buildSlice hF rfl (cs := #[.int .i64 2, .int .i64 7]) (e := 3) (fun w => by kernel_rfl) rfl (fun b86 => ?_)
 refine TL.on rfl rfl rfl rfl ?_
 refine TL.buildSlice hF rfl (cs := #[.slice (some ⟨b85, 0, none⟩) 2 2, .slice (some ⟨b86, 0, none⟩) 2 2]) (e := 22) (fun w => by kernel_rfl) rfl (fun b87 => ?_)
 refine TL.on rfl rfl rfl rfl ?_
 refine TL.callV hF (EqL_lit (L := [[1, 3], [2, 7]]) h4.ro (show LL _ _ _ (some ⟨b87, 0, none⟩) [(some ⟨b85, 0, none⟩, [1, 3], 2), (some ⟨b86, 0, none⟩, [2, 7], 2)] from ⟨row_own (cs := [.slice (some ⟨b85, 0, none⟩) 2 2, .slice (some ⟨b86, 0, none⟩) 2 2]) (e := 22) (b := b87) (by simp), fun p hp => by
  simp only [List.mem_cons, List.not_mem_nil, or_false] at hp
  rcases hp with rfl | rfl
  ·exact (row_own (cs := [.int .i64 1, .int .i64 3]) (e := 3) (b := b85) (by simp))
  ·exact (row_own (cs := [.int .i64 2, .int .i64 7]) (e := 3) (b := b86) (by simp))⟩) t4 rfl (by decide) (by decide)) rfl rfl ?_
 refine TL.pickT hF rfl rfl rfl rfl ?_
 refine TL.move hF rfl rfl ?_
 refine TL.on rfl rfl rfl rfl ?_
 refine TL.move hF rfl rfl ?_
 refine TL.on rfl rfl rfl rfl ?_
 refine TL.buildSlice hF rfl (cs := #[.int .i64 0, .int .i64 1, .int .i64 2]) (e := 3) (fun w => by kernel_rfl) rfl (fun b92 => ?_)
 refine TL.on rfl rfl rfl rfl ?_
 refine TL.buildSlice hF rfl (cs := #[.int .i64 1, .int .i64 0, .int .i64 2]) (e := 3) (fun w => by kernel_rfl) rfl (fun b93 => ?_)
 refine TL.on rfl rfl rfl rfl ?_
 refine TL.buildSlice hF rfl (cs := #[.slice (some ⟨b92, 0, none⟩) 3 3, .slice (some ⟨b93, 0, none⟩) 3 3]) (e := 22) (fun w => by kernel_rfl) rfl (fun b94 => ?_)
 refine TL.on rfl rfl rfl rfl ?_
 refine TL.callV hF (EqL_lit (L := [[0, 1, 2], [1, 0, 2]]) h6.ro (show LL _ _ _ (some ⟨b94, 0, none⟩) [(some ⟨b92, 0, none⟩, [0, 1, 2], 3), (some ⟨b93, 0, none⟩, [1, 0, 2], 3)] from ⟨row_own (cs := [.slice (some ⟨b92, 0, none⟩) 3 3, .slice (some ⟨b93, 0, none⟩) 3 3]) (e := 22) (b := b94) (by simp), fun p hp => by
  simp only [List.mem_cons, List.not_mem_nil, or_false] at hp
  rcases hp with rfl | rfl
  ·exact (row_own (cs := [.int .i64 0, .int .i64 1, .int .i64 2]) (e := 3) (b := b92) (by simp))
  ·exact (row_own (cs := [.int .i64 1, .int .i64 0, .int .i64 2]) (e := 3) (b := b93) (by simp))⟩) t6 rfl (by decide) (by decide)) rfl rfl ?_
 refine TL.pickT hF rfl rfl rfl rfl ?_
 refine TL.move hF rfl rfl ?_
 refine TL.on rfl rfl rfl rfl ?_
 refine TL.move hF rfl rfl ?_
 refine TL.on rfl rfl rfl rfl ?_
 refine TL.buildSlice hF rfl (cs := #[.int .i64 1, .int .i64 2]) (e := 3) (fun w => by kernel_rfl) rfl (fun b99 => ?_)
 refine TL.on rfl rfl rfl rfl ?_
 refine TL.callV hF (Eq_same (xs := [1, 2]) h8.ro (row_own (cs := [.int .i64 1, .int .i64 2]) (e := 3) (b := b99) (by simp)) (by decide)) rfl rfl ?_
 refine TL.pickT hF rfl rfl rfl rfl ?_
 refine TL.move hF rfl rfl ?_
 refine TL.on rfl rfl rfl rfl ?_
 refine TL.buildSlice hF rfl (cs := #[.int .i64 1, .int .i64 8]) (e := 3) (fun w => by kernel_rfl) rfl (fun b103 => ?_)
 refine TL.on rfl rfl rfl rfl ?_
 refine TL.freeze ([[(b103, Obj.cells #[.int .i64 1, .int .i64 8] 3 (0, 0))]]) rfl (fun S7 w7 hz7 => ?_)
 replace hb := hb.frz hz7
 replace hg := hg.old hz7
 have h103 : Row S7 w7 [] (some ⟨b103, 0, none⟩) (ints [1, 8]) := (row_own (η := [[(b103, Obj.cells #[.int .i64 1, .int .i64 8] 3 (0, 0))]]) (cs := [.int .i64 1, .int .i64 8]) (e := 3) (by simp)).frz hz7
 refine TL.call hF (Check_prog (l := [1, 8]) 3 h103 (by decide) (by decide)) rfl rfl ?_
 rintro _ _ ⟨rfl, segs, rfl⟩
 rw [show checkE 3 [1, 8] = 2 by decide +kernel]
 refine TL.on rfl rfl rfl rfl ?_
 refine TL.bin hF rfl rfl rfl rfl ?_
 refine TL.pickT hF rfl rfl rfl rfl ?_
 refine TL.assign hF rfl rfl ?_
 refine TL.nil ?_
 refine TQ.then_n ?_
 refine T.ret ?_
 exact TQ.retsF [0] _ hb rfl rfl rfl (fun _ => rfl)
end Go.Proofs.YtfnalecnnmkgbaaDoor
/- What the arguments of the laws hold; the table that the program's start lays. -/
namespace Go.Proofs.YtfnalecnnmkgbaaDoor
open Go.Sl Go.ChangeShapes Go.WideShapes Go.ChangeAt Go.Deep Go.RowKit
section
variable {H : Type} {enc : TypeId × Value → H} {W : World}
theorem list1 {l : List Value} (h : l.length = 1) : ∃ a, l = [a] := by
  match l, h with
  | [a], _ => exact ⟨a, rfl⟩
theorem u3 : Tryd.prog.underlying 3 = some (.int .i64) := by kernel_rfl
theorem u4 : Tryd.prog.underlying 4 = some .bool := by kernel_rfl
theorem u5 : Tryd.prog.underlying 5 = some (.int .u8) := by kernel_rfl
theorem u22 : Tryd.prog.underlying 22 = some (.slice 3) := by kernel_rfl
theorem u39 : Tryd.prog.underlying 39 = some (.slice 74) := by kernel_rfl
theorem u45 : Tryd.prog.underlying 45 = some (.slice 5) := by kernel_rfl
theorem u65 : Tryd.prog.underlying 65 = some (.array 2 64) := by kernel_rfl
theorem u74 : Tryd.prog.underlying 74 = some (.int .u16) := by kernel_rfl
theorem k3 : Tryd.prog.cellsOf 3 = 1 := by kernel_rfl
theorem k5 : Tryd.prog.cellsOf 5 = 1 := by kernel_rfl
theorem k64 : Tryd.prog.cellsOf 64 = 1 := by kernel_rfl
theorem k74 : Tryd.prog.cellsOf 74 = 1 := by kernel_rfl
theorem ints_arg {fuel : Nat} {v : Value} {y : DataW H × List MemPlace} (h : DataW.trod enc Tryd.prog W 0 (fun _ => true) true fuel 22 [v] = some y) :
    ∃ (a : Option Addr) (l : List Int) (cap : Nat), v = .slice a l.length cap ∧ Row (Old W) W [] a (ints l) ∧ l.length < 2 ^ 63 ∧ l.length ≤ cap := by
  obtain ⟨a, xs, c, e2, hm, hrow, _⟩ := ints_read u22 u3 k3 h
  obtain ⟨a', len, c', n, cs, e3, hlc, _⟩ := slice_read u22 (by rw [k3]; omega) h
  rw [e2] at e3
  simp only [Value.slice.injEq] at e3
  exact ⟨a, xs, c, e2, hrow, by unfold maxLen at hm; omega, by omega⟩
end
theorem Tryd.own : ownKnob Tryd.prog.godebug = none := by kernel_rfl
theorem Tryd.laidOut : laidOutB Tryd.prog = true := by kernel_rfl
theorem gKinds : Tryd.prog.globalNamed "deltaworks/chain.kinds" = some 0 := by kernel_rfl
theorem tKinds : (Tryd.prog.globals[0]?).map (·.type) = some 65 := by kernel_rfl
abbrev laidL : List (String × DataW Unit) := [("deltaworks/chain.kinds", Rows.laid_deltaworks_chain_kinds)]
theorem door_met (os : Os) (args : Array Value) : laidMetH Tryd.prog laidL ((World.doorLaid Tryd.prog 2000 os).forCall (fun _ _ => 0) ⟨#[], args, []⟩).memory :=
  laidMetH_of_parts3 (fuel := 8) (laidMet_of_run' 8 (by kernel_rfl) (by kernel_rfl)) (by kernel_rfl) (by kernel_rfl)
theorem kind_read {W : World} {m f0 : Nat} {cs : List Value} {y : DataW (List UInt8) × List MemPlace} {c : UInt8} {r : List UInt8} (hone : ((List.range Tryd.prog.funcs.size).filter fun f => (Tryd.prog.funcs[f]?).any (·.name.toUTF8.data.toList == c :: r)) = [f0])
    (h : DataW.trod (funcToken Tryd.prog) Tryd.prog W 0 (fun _ => true) true m 64 cs = some y) (hy : y.1 = .agg [.held (c :: r)]) : cs = [.func (.func f0) #[] #[]] := by
  obtain ⟨g0, hu, o0, ps, rs, va, hft, hc⟩ : ∃ g0 : Field, Tryd.prog.underlying 64 = some (.struct #[g0]) ∧ g0.offset = 0 ∧ ∃ ps rs va, Tryd.prog.underlying g0.type = some (.func ps rs va) ∧ Tryd.prog.cellsOf g0.type = 1 := by
    rw [show Tryd.prog.underlying 64 = Tryd.prog.underlying 63 from by kernel_rfl, Tryd.underlying63]
    exact ⟨_, rfl, rfl, _, _, _, Tryd.underlying62, by kernel_rfl⟩
  obtain ⟨y0, n, he, hl, h0⟩ := trod_struct1 hu h
  rw [k64] at hl
  obtain ⟨c0, rfl⟩ := list1 hl
  subst he
  simp only [DataW.agg.injEq, List.cons.injEq, and_true] at hy
  rw [hc, o0] at h0
  simp only [List.drop_zero, List.take_succ_cons, List.take_zero] at h0
  obtain ⟨d2, q2⟩ := y0
  simp only at hy
  subst hy
  rw [Go.func_of_trod hft hone h0]
theorem kinds_of_laid {W : World} (h : laidMetH Tryd.prog laidL W) : Kinds (Old W) W := by
  obtain ⟨g, t, cs, fuel, p, hg, ht, hv, hd⟩ := h.funcs (List.mem_singleton.2 rfl)
  obtain rfl := Option.some.inj (gKinds.symm.trans hg)
  obtain rfl := Option.some.inj (tKinds.symm.trans ht)
  obtain ⟨xs, m, rfl, hx1, hlen, hn4, hel⟩ := DataW.trod_array u65 hd
  rw [k64] at hel
  simp only [Prod.mk.injEq, DataW.funcsOut, DataW.funcsOutAll, DataW.agg.injEq] at hx1
  obtain ⟨hx, _⟩ := hx1
  match xs, hn4, hx, hel with
  | [x0, x1], _, hx, hel =>
    simp only [List.map_cons, List.map_nil, List.cons.injEq, and_true] at hx
    obtain ⟨q0, q1⟩ := hx
    have r0 := kind_read (f0 := 117) (by kernel_rfl) (hel 0 (by decide)) q0.symm
    have r1 := kind_read (f0 := 114) (by kernel_rfl) (hel 1 (by decide)) q1.symm
    intro o ho
    have key : (cs.toList.drop (o * 1)).take 1 = [kindV o] := by
      have : o = 0 ∨ o = 1 := by omega
      rcases this with rfl | rfl
      · exact r0
      · exact r1
    have hcell : W.cell? ⟨0, o, none⟩ = some (kindV o) := by
      have h2 : ((cs.toList.drop (o * 1)).take 1)[0]? = some (kindV o) := by rw [key]; rfl
      rw [List.getElem?_take, if_pos (by decide), List.getElem?_drop] at h2
      have := World.var?_cell hg hv o
      rw [this, ← Array.getElem?_toList]
      simpa using h2
    exact .rd (cell_lt hcell).1 hcell
end Go.Proofs.YtfnalecnnmkgbaaDoor
/- The program's answers are the specification's. -/
namespace Go.Proofs.YtfnalecnnmkgbaaDoor
open Go.Sl
variable {S : Nat → Prop} {w0 : World} {η : Heap}
theorem chainsS_good (cols : Int) (l : List Int) : (chainsS cols l).1.length < 2 ^ 63 ∧ ∀ x ∈ (chainsS cols l).1, x.length < 2 ^ 63 := by
 unfold chainsS
 by_cases h : checkE cols l = 0
 ·rw [if_pos h]
  have hR := ris_ok h
  have h1 := chainN_len (risingS l) (nextsS (risingS l)) (risingS l).length
  have h2 := hR.le
  have h3 : (chainsR (risingS l)).length ≤ (risingS l).length := h1
  exact ⟨by show (chainsR (risingS l)).length < _; omega, fun x hx => by have := (chains_ok hR x hx).2; omega⟩
 ·rw [if_neg h]; exact ⟨by simp, fun x hx => by simp at hx⟩
theorem ordersS_good (cols : Int) (l : List Int) : (ordersS cols l).1.length < 2 ^ 63 ∧ ∀ x ∈ (ordersS cols l).1, x.length < 2 ^ 63 := by
 unfold ordersS
 by_cases h : checkE cols l = 0
 ·rw [if_pos h]
  have hR := ris_ok h
  have hc := (checkE_ok h).1
  have h1 := chainN_len (risingS l) (nextsS (risingS l)) (risingS l).length
  have h2 := hR.le
  have h3 : (chainsR (risingS l)).length ≤ (risingS l).length := h1
  refine ⟨by show ((chainsR (risingS l)).map (orderS cols.toNat)).length < _; rw [List.length_map]; omega, fun x hx => ?_⟩
  obtain ⟨ch, hch, rfl⟩ := List.mem_map.1 (show x ∈ (chainsR (risingS l)).map (orderS cols.toNat) from hx)
  have := orderS_len cols.toNat ch (by omega) (chains_ok hR ch hch).2
  omega
 ·rw [if_neg h]; exact ⟨by simp, fun x hx => by simp at hx⟩
theorem witnessS_good (cols : Int) (l : List Int) : (witnessS cols l).1.length < 2 ^ 63 := by
 rw [← witness_same]
 unfold witnessP
 by_cases h : checkE cols l = 0
 ·rw [if_pos h]
  have hR := ris_ok h
  have h1 := (wit_same hR.sets hR.up.nodup).2.2.1.length_le
  have h2 := hR.le
  show (witP (fewN (risingS l)) (risingS l) (risingS l) []).length < _
  omega
 ·rw [if_neg h]; exact Nat.two_pow_pos 63
theorem Witness_prog' {a : Option Addr} {l : List Int} {c : Nat} (cols : Int) (hx : Row S w0 [] a (ints l)) (hl : l.length < 2 ^ 63) (hc : l.length ≤ c) (hg : Kinds S w0) :
  Rt Tryd.prog 18 [.int .i64 cols, .slice a l.length c].toArray S w0 η (ResT S w0 (witnessS cols l) η) := by
 rw [← witness_same]; exact Witness_prog cols hx hl hc hg
set_option maxHeartbeats 2000000 in
theorem ChainTells_fn {a : Option Addr} {l : List Int} {c : Nat} (cols : Int) (hg : Kinds S w0) (hx : Row S w0 [] a (ints l)) (hl : l.length < 2 ^ 63) (hc : l.length ≤ c) :
  Rt Tryd.prog 3 [.int .i64 cols, .slice a l.length c].toArray S w0 [] (fun v _ => v = .bool true) := by
 have hF := open_wide
 refine Rt.of (fn := Tryd.f3) Tryd.func3 rfl rfl ?_
 refine T.seq ?_
 refine T.region ?_
 refine TL.assign hF rfl rfl ?_
 refine TL.nil ?_
 refine TQ.then_n ?_
 refine T.seq ?_
 refine T.seq ?_
 refine T.region ?_
 refine TL.move hF rfl rfl ?_
 refine TL.len hF rfl rfl ?_
 refine TL.bin hF rfl rfl rfl rfl ?_
 refine TL.nil ?_
 refine TQ.then_n ?_
 first | refine T.cond_d rfl (fun ht23 => ?_) (fun ht23 => ?_) | refine T.cond _ rfl (fun ht23 => ?_) (fun ht23 => ?_)
 ·refine T.seq ?_
  refine T.region ?_
  have hb := Back.refl S w0
  refine TL.call hF (awake_fn hg) rfl rfl ?_
  rintro _ _ rfl
  refine TL.assign hF rfl rfl ?_
  refine TL.nil ?_
  refine TQ.then_n ?_
  refine T.ret ?_
  refine TQ.then_r ?_
  exact TQ.retsF [4] _ hb rfl rfl rfl (fun _ => rfl)
 ·refine T.skip ?_
  refine TQ.then_n ?_
  refine T.seq ?_
  refine T.region ?_
  refine TL.move hF rfl rfl ?_
  refine TL.move hF rfl rfl ?_
  have hb := Back.refl S w0
  refine TL.call hF (Fewest_prog cols hx hl hc hg) rfl rfl ?_
  rintro _ _ ⟨rfl, segs, rfl⟩
  refine TL.hsub _ (List.sublist_append_right _ _) ?_
  refine TL.move hF rfl rfl ?_
  refine TL.extract hF rfl rfl rfl ?_
  refine TL.extract hF rfl rfl rfl ?_
  refine TL.assign hF rfl rfl ?_
  refine TL.assign hF rfl rfl ?_
  refine TL.nil ?_
  refine TQ.then_n ?_
  refine T.seq ?_
  refine T.region ?_
  refine TL.move hF rfl rfl ?_
  refine TL.move hF rfl rfl ?_
  refine TL.callV hF (Fewest_ref cols hx hl hc) rfl rfl ?_
  refine TL.move hF rfl rfl ?_
  refine TL.extract hF rfl rfl rfl ?_
  refine TL.extract hF rfl rfl rfl ?_
  refine TL.assign hF rfl rfl ?_
  refine TL.assign hF rfl rfl ?_
  refine TL.nil ?_
  refine TQ.then_n ?_
  refine T.seq ?_
  refine T.region ?_
  refine TL.move hF rfl rfl ?_
  refine TL.move hF rfl rfl ?_
  refine TL.call hF (Chains_prog cols hx hl hc hg) rfl rfl ?_
  rintro _ _ ⟨a9, c9, p9, segs, rfl, t9, h9, rfl⟩
  refine TL.freeze (segs) rfl (fun S1 w1 hz1 => ?_)
  replace hb := hb.frz hz1
  replace hg := hg.old hz1
  replace hx := hx.old hz1
  replace h9 := h9.frz hz1
  refine TL.move hF rfl rfl ?_
  refine TL.extract hF rfl rfl rfl ?_
  refine TL.extract hF rfl rfl rfl ?_
  refine TL.assign hF rfl rfl ?_
  refine TL.assign hF rfl rfl ?_
  refine TL.nil ?_
  refine TQ.then_n ?_
  refine T.seq ?_
  refine T.region ?_
  refine TL.move hF rfl rfl ?_
  refine TL.move hF rfl rfl ?_
  refine TL.call hF (Chains_ref cols hx hl hc) rfl rfl ?_
  rintro _ _ ⟨a11, c11, p11, segs, rfl, t11, h11, rfl⟩
  refine TL.freeze (segs) rfl (fun S2 w2 hz2 => ?_)
  replace hb := hb.frz hz2
  replace hg := hg.old hz2
  replace hx := hx.old hz2
  replace h9 := h9.old hz2
  replace h11 := h11.frz hz2
  refine TL.move hF rfl rfl ?_
  refine TL.extract hF rfl rfl rfl ?_
  refine TL.extract hF rfl rfl rfl ?_
  refine TL.assign hF rfl rfl ?_
  refine TL.assign hF rfl rfl ?_
  refine TL.nil ?_
  refine TQ.then_n ?_
  refine T.seq ?_
  refine T.region ?_
  refine TL.move hF rfl rfl ?_
  refine TL.move hF rfl rfl ?_
  refine TL.call hF (Orders_prog cols hx hl hc hg) rfl rfl ?_
  rintro _ _ ⟨a13, c13, p13, segs, rfl, t13, h13, rfl⟩
  refine TL.freeze (segs) rfl (fun S3 w3 hz3 => ?_)
  replace hb := hb.frz hz3
  replace hg := hg.old hz3
  replace hx := hx.old hz3
  replace h9 := h9.old hz3
  replace h11 := h11.old hz3
  replace h13 := h13.frz hz3
  refine TL.move hF rfl rfl ?_
  refine TL.extract hF rfl rfl rfl ?_
  refine TL.extract hF rfl rfl rfl ?_
  refine TL.assign hF rfl rfl ?_
  refine TL.assign hF rfl rfl ?_
  refine TL.nil ?_
  refine TQ.then_n ?_
  refine T.seq ?_
  refine T.region ?_
  refine TL.move hF rfl rfl ?_
  refine TL.move hF rfl rfl ?_
  refine TL.call hF (Orders_ref cols hx hl hc) rfl rfl ?_
  rintro _ _ ⟨a15, c15, p15, segs, rfl, t15, h15, rfl⟩
  refine TL.freeze (segs) rfl (fun S4 w4 hz4 => ?_)
  replace hb := hb.frz hz4
  replace hg := hg.old hz4
  replace hx := hx.old hz4
  replace h9 := h9.old hz4
  replace h11 := h11.old hz4
  replace h13 := h13.old hz4
  replace h15 := h15.frz hz4
  refine TL.move hF rfl rfl ?_
  refine TL.extract hF rfl rfl rfl ?_
  refine TL.extract hF rfl rfl rfl ?_
  refine TL.assign hF rfl rfl ?_
  refine TL.assign hF rfl rfl ?_
  refine TL.nil ?_
  refine TQ.then_n ?_
  refine T.seq ?_
  refine T.region ?_
  refine TL.move hF rfl rfl ?_
  refine TL.move hF rfl rfl ?_
  refine TL.call hF (Witness_prog' cols hx hl hc hg) rfl rfl ?_
  rintro _ _ ⟨a17, c17, segs, rfl, h17, rfl⟩
  refine TL.freeze (segs) rfl (fun S5 w5 hz5 => ?_)
  replace hb := hb.frz hz5
  replace hg := hg.old hz5
  replace hx := hx.old hz5
  replace h9 := h9.old hz5
  replace h11 := h11.old hz5
  replace h13 := h13.old hz5
  replace h15 := h15.old hz5
  replace h17 := h17.frz hz5
  refine TL.move hF rfl rfl ?_
  refine TL.extract hF rfl rfl rfl ?_
  refine TL.extract hF rfl rfl rfl ?_
  refine TL.assign hF rfl rfl ?_
  refine TL.assign hF rfl rfl ?_
  refine TL.nil ?_
  refine TQ.then_n ?_
  refine T.seq ?_
  refine T.region ?_
  refine TL.move hF rfl rfl ?_
  refine TL.move hF rfl rfl ?_
  refine TL.call hF (Witness_ref cols hx hl hc) rfl rfl ?_
  rintro _ _ ⟨a19, c19, segs, rfl, h19, rfl⟩
  refine TL.freeze (segs) rfl (fun S6 w6 hz6 => ?_)
  replace hb := hb.frz hz6
  replace hg := hg.old hz6
  replace hx := hx.old hz6
  replace h9 := h9.old hz6
  replace h11 := h11.old hz6
  replace h13 := h13.old hz6
  replace h15 := h15.old hz6
  replace h17 := h17.old hz6
  replace h19 := h19.frz hz6
  refine TL.move hF rfl rfl ?_
  refine TL.extract hF rfl rfl rfl ?_
  refine TL.extract hF rfl rfl rfl ?_
  refine TL.assign hF rfl rfl ?_
  refine TL.assign hF rfl rfl ?_
  refine TL.nil ?_
  refine TQ.then_n ?_
  refine T.seq ?_
  refine T.region ?_
  refine TL.move hF rfl rfl ?_
  refine TL.move hF rfl rfl ?_
  refine TL.call hF (Check_prog cols hx hl hc) rfl rfl ?_
  rintro _ _ ⟨rfl, segs, rfl⟩
  refine TL.hsub _ (List.sublist_append_right _ _) ?_
  refine TL.move hF rfl rfl ?_
  refine TL.move hF rfl rfl ?_
  refine TL.callV hF (Check_ref cols hx hl hc) rfl rfl ?_
  refine TL.bin hF rfl rfl rfl rfl ?_
  refine TL.move hF rfl rfl ?_
  refine TL.on rfl rfl rfl (by simp) ?_
  refine TL.move hF rfl rfl ?_
  refine TL.on rfl rfl rfl (by simp) ?_
  refine TL.move hF rfl rfl ?_
  refine TL.on rfl rfl rfl (by simp) ?_
  refine TL.bin hF rfl rfl rfl rfl ?_
  refine TL.pickT hF rfl (by simp) rfl rfl ?_
  refine TL.move hF rfl rfl ?_
  refine TL.on rfl rfl rfl (by simp) ?_
  refine TL.move hF rfl rfl ?_
  refine TL.on rfl rfl rfl (by simp) ?_
  refine TL.move hF rfl rfl ?_
  refine TL.on rfl rfl rfl (by simp) ?_
  refine TL.bin hF rfl rfl rfl rfl ?_
  refine TL.pickT hF rfl (by simp) rfl rfl ?_
  refine TL.move hF rfl rfl ?_
  refine TL.on rfl rfl rfl (by simp) ?_
  refine TL.move hF rfl rfl ?_
  refine TL.on rfl rfl rfl (by simp) ?_
  refine TL.move hF rfl rfl ?_
  refine TL.on rfl rfl rfl (by simp) ?_
  refine TL.callV hF (EqL_lit h9.ro h11.ro t9 t11 (chainsS_good _ _).1 (chainsS_good _ _).2) rfl rfl ?_
  refine TL.pickT hF rfl (by simp) rfl rfl ?_
  refine TL.move hF rfl rfl ?_
  refine TL.on rfl rfl rfl (by simp) ?_
  refine TL.move hF rfl rfl ?_
  refine TL.on rfl rfl rfl (by simp) ?_
  refine TL.move hF rfl rfl ?_
  refine TL.on rfl rfl rfl (by simp) ?_
  refine TL.bin hF rfl rfl rfl rfl ?_
  refine TL.pickT hF rfl (by simp) rfl rfl ?_
  refine TL.move hF rfl rfl ?_
  refine TL.on rfl rfl rfl (by simp) ?_
  refine TL.move hF rfl rfl ?_
  refine TL.on rfl rfl rfl (by simp) ?_
  refine TL.move hF rfl rfl ?_
  refine TL.on rfl rfl rfl (by simp) ?_
  refine TL.callV hF (EqL_lit h13.ro h15.ro t13 t15 (ordersS_good _ _).1 (ordersS_good _ _).2) rfl rfl ?_
  refine TL.pickT hF rfl (by simp) rfl rfl ?_
  refine TL.move hF rfl rfl ?_
  refine TL.on rfl rfl rfl (by simp) ?_
  refine TL.move hF rfl rfl ?_
  refine TL.on rfl rfl rfl (by simp) ?_
  refine TL.move hF rfl rfl ?_
  refine TL.on rfl rfl rfl (by simp) ?_
  refine TL.bin hF rfl rfl rfl rfl ?_
  refine TL.pickT hF rfl (by simp) rfl rfl ?_
  refine TL.move hF rfl rfl ?_
  refine TL.on rfl rfl rfl (by simp) ?_
  refine TL.move hF rfl rfl ?_
  refine TL.on rfl rfl rfl (by simp) ?_
  refine TL.move hF rfl rfl ?_
  refine TL.on rfl rfl rfl (by simp) ?_
  refine TL.callV hF (Eq_same h17.ro h19.ro (witnessS_good _ _)) rfl rfl ?_
  refine TL.pickT hF rfl (by simp) rfl rfl ?_
  refine TL.move hF rfl rfl ?_
  refine TL.on rfl rfl rfl (by simp) ?_
  refine TL.move hF rfl rfl ?_
  refine TL.on rfl rfl rfl (by simp) ?_
  refine TL.move hF rfl rfl ?_
  refine TL.on rfl rfl rfl (by simp) ?_
  refine TL.bin hF rfl rfl rfl rfl ?_
  refine TL.pickT hF rfl (by simp) rfl rfl ?_
  refine TL.move hF rfl rfl ?_
  refine TL.on rfl rfl rfl (by simp) ?_
  refine TL.hsub [] (List.nil_sublist _) ?_
  refine TL.call hF (awake_fn hg) rfl rfl ?_
  rintro _ _ rfl
  refine TL.pickT hF rfl (by simp) rfl rfl ?_
  refine TL.assign hF rfl rfl ?_
  refine TL.nil ?_
  refine TQ.then_n ?_
  refine T.ret ?_
  exact TQ.retsF [4] _ hb rfl rfl rfl (fun _ => rfl)
set_option maxHeartbeats 2000000 in
theorem ChainServes_fn {a : Option Addr} {l : List Int} {c : Nat} (s : Int) (hg : Kinds S w0) (hx : Row S w0 [] a (ints l)) (hl : l.length < 2 ^ 63) (hc : l.length ≤ c) :
  Rt Tryd.prog 4 [.slice a l.length c, .int .i64 s].toArray S w0 [] (fun v _ => v = .bool true) := by
 have hF := open_wide
 refine Rt.of (fn := Tryd.f4) Tryd.func4 rfl rfl ?_
 refine T.seq ?_
 refine T.region ?_
 refine TL.assign hF rfl rfl ?_
 refine TL.nil ?_
 refine TQ.then_n ?_
 refine T.seq ?_
 refine T.seq ?_
 refine T.region ?_
 refine TL.move hF rfl rfl ?_
 refine TL.len hF rfl rfl ?_
 refine TL.bin hF rfl rfl rfl rfl ?_
 refine TL.nil ?_
 refine TQ.then_n ?_
 first | refine T.cond_d rfl (fun ht11 => ?_) (fun ht11 => ?_) | refine T.cond _ rfl (fun ht11 => ?_) (fun ht11 => ?_)
 ·refine T.seq ?_
  refine T.region ?_
  have hb := Back.refl S w0
  refine TL.call hF (awake_fn hg) rfl rfl ?_
  rintro _ _ rfl
  refine TL.assign hF rfl rfl ?_
  refine TL.nil ?_
  refine TQ.then_n ?_
  refine T.ret ?_
  refine TQ.then_r ?_
  exact TQ.retsF [4] _ hb rfl rfl rfl (fun _ => rfl)
 ·refine T.skip ?_
  refine TQ.then_n ?_
  refine T.seq ?_
  refine T.region ?_
  refine TL.move hF rfl rfl ?_
  refine TL.move hF rfl rfl ?_
  have hb := Back.refl S w0
  refine TL.call hF (Serves_prog s hx hl hc) rfl rfl ?_
  rintro _ _ ⟨rfl, segs, rfl⟩
  refine TL.hsub _ (List.sublist_append_right _ _) ?_
  refine TL.move hF rfl rfl ?_
  refine TL.extract hF rfl rfl rfl ?_
  refine TL.extract hF rfl rfl rfl ?_
  refine TL.assign hF rfl rfl ?_
  refine TL.assign hF rfl rfl ?_
  refine TL.nil ?_
  refine TQ.then_n ?_
  refine T.seq ?_
  refine T.region ?_
  refine TL.move hF rfl rfl ?_
  refine TL.move hF rfl rfl ?_
  refine TL.callV hF (Serves_ref s hx hl) rfl rfl ?_
  refine TL.move hF rfl rfl ?_
  refine TL.extract hF rfl rfl rfl ?_
  refine TL.extract hF rfl rfl rfl ?_
  refine TL.assign hF rfl rfl ?_
  refine TL.assign hF rfl rfl ?_
  refine TL.nil ?_
  refine TQ.then_n ?_
  refine T.seq ?_
  refine T.region ?_
  refine TL.move hF rfl rfl ?_
  refine TL.move hF rfl rfl ?_
  refine TL.eqlB hF rfl rfl rfl ?_
  refine TL.move hF rfl rfl ?_
  refine TL.on rfl rfl rfl (by simp) ?_
  refine TL.move hF rfl rfl ?_
  refine TL.on rfl rfl rfl (by simp) ?_
  refine TL.move hF rfl rfl ?_
  refine TL.on rfl rfl rfl (by simp) ?_
  refine TL.bin hF rfl rfl rfl rfl ?_
  refine TL.pickT hF rfl (by simp) rfl rfl ?_
  refine TL.move hF rfl rfl ?_
  refine TL.on rfl rfl rfl (by simp) ?_
  refine TL.call hF (awake_fn hg) rfl rfl ?_
  rintro _ _ rfl
  refine TL.pickT hF rfl (by simp) rfl rfl ?_
  refine TL.assign hF rfl rfl ?_
  refine TL.nil ?_
  refine TQ.then_n ?_
  refine T.ret ?_
  exact TQ.retsF [4] _ hb rfl rfl rfl (fun _ => rfl)
end Go.Proofs.YtfnalecnnmkgbaaDoor
