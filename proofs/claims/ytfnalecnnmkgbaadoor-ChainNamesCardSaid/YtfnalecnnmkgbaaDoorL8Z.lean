/- The values of the names are the document's, and so are its examples. No condition. -/
import Derived.Test.YtfnalecnnmkgbaaDoorTe
import Derived.Test.YtfnalecnnmkgbaaDoorCards
import Derived.Test.YtfnalecnnmkgbaaDoorTie
/- The values of the names. -/
namespace Go.Proofs.YtfnalecnnmkgbaaDoor
open Go.Sl
variable {S : Nat → Prop} {w0 : World} {η : Heap}
set_option maxHeartbeats 2000000 in
theorem ChainNames_fn (hg : Kinds S w0) :
  Rt Tryd.prog 10 #[] S w0 [] (fun v _ => v = .bool true) := by
 have hF := open_wide
 refine Rt.of (fn := Tryd.f10) Tryd.func10 rfl rfl ?_
 refine T.seq ?_
 refine T.region ?_
 refine TL.assign hF rfl rfl ?_
 refine TL.nil ?_
 refine TQ.then_n ?_
 refine T.seq ?_
 refine T.region ?_
 have hb := Back.refl S w0
 refine TL.buildSlice hF rfl (cs := #[.int .i64 3, .int .i64 1]) (e := 3) (fun w => by kernel_rfl) rfl (fun b12 => ?_)
 refine TL.freeze ([[(b12, Obj.cells #[.int .i64 3, .int .i64 1] 3 (0, 0))]]) rfl (fun S1 w1 hz1 => ?_)
 replace hb := hb.frz hz1
 replace hg := hg.old hz1
 have h12 : Row S1 w1 [] (some ⟨b12, 0, none⟩) (ints [3, 1]) := (row_own (η := [[(b12, Obj.cells #[.int .i64 3, .int .i64 1] 3 (0, 0))]]) (cs := [.int .i64 3, .int .i64 1]) (e := 3) (by simp)).frz hz1
 refine TL.call hF (Fewest_prog (l := [3, 1]) 2 h12 (by decide) (by decide) hg) rfl rfl ?_
 rintro _ _ ⟨rfl, segs, rfl⟩
 rw [show fewestS 2 [3, 1] = (1, 0) by decide +kernel]
 refine TL.hsub _ (List.sublist_append_right _ _) ?_
 refine TL.move hF rfl rfl ?_
 refine TL.extract hF rfl rfl rfl ?_
 refine TL.extract hF rfl rfl rfl ?_
 refine TL.assign hF rfl rfl ?_
 refine TL.assign hF rfl rfl ?_
 refine TL.nil ?_
 refine TQ.then_n ?_
 refine T.seq ?_
 refine T.region ?_
 refine TL.buildSlice hF rfl (cs := #[.int .i64 3, .int .i64 1]) (e := 3) (fun w => by kernel_rfl) rfl (fun b17 => ?_)
 refine TL.freeze ([[(b17, Obj.cells #[.int .i64 3, .int .i64 1] 3 (0, 0))]]) rfl (fun S2 w2 hz2 => ?_)
 replace hb := hb.frz hz2
 replace hg := hg.old hz2
 have h17 : Row S2 w2 [] (some ⟨b17, 0, none⟩) (ints [3, 1]) := (row_own (η := [[(b17, Obj.cells #[.int .i64 3, .int .i64 1] 3 (0, 0))]]) (cs := [.int .i64 3, .int .i64 1]) (e := 3) (by simp)).frz hz2
 refine TL.call hF (Chains_prog (l := [3, 1]) 2 h17 (by decide) (by decide) hg) rfl rfl ?_
 rintro _ _ h
 obtain ⟨a3, c3, p3, segs, rfl, t3, h3, rfl⟩ := h.lit (show chainsS 2 [3, 1] = ([[1, 3]], 0) by decide +kernel)
 refine TL.freeze (segs) rfl (fun S3 w3 hz3 => ?_)
 replace hb := hb.frz hz3
 replace hg := hg.old hz3
 replace h17 := h17.old hz3
 replace h3 := h3.frz hz3
 refine TL.move hF rfl rfl ?_
 refine TL.extract hF rfl rfl rfl ?_
 refine TL.extract hF rfl rfl rfl ?_
 refine TL.assign hF rfl rfl ?_
 refine TL.assign hF rfl rfl ?_
 refine TL.nil ?_
 refine TQ.then_n ?_
 refine T.seq ?_
 refine T.region ?_
 refine TL.call hF (Fewest_prog (l := []) (a := none) (c := 0) 3 Row.none (by decide) (by decide) hg) rfl rfl ?_
 rintro _ _ ⟨rfl, segs, rfl⟩
 rw [show fewestS 3 [] = (0, 0) by decide +kernel]
 refine TL.hsub _ (List.sublist_append_right _ _) ?_
 refine TL.move hF rfl rfl ?_
 refine TL.extract hF rfl rfl rfl ?_
 refine TL.extract hF rfl rfl rfl ?_
 refine TL.assign hF rfl rfl ?_
 refine TL.assign hF rfl rfl ?_
 refine TL.nil ?_
 refine TQ.then_n ?_
 refine T.seq ?_
 refine T.region ?_
 refine TL.buildSlice hF rfl (cs := #[.int .i64 0, .int .i64 2]) (e := 3) (fun w => by kernel_rfl) rfl (fun b26 => ?_)
 refine TL.freeze ([[(b26, Obj.cells #[.int .i64 0, .int .i64 2] 3 (0, 0))]]) rfl (fun S4 w4 hz4 => ?_)
 replace hb := hb.frz hz4
 replace hg := hg.old hz4
 replace h3 := h3.old hz4
 have h26 : Row S4 w4 [] (some ⟨b26, 0, none⟩) (ints [0, 2]) := (row_own (η := [[(b26, Obj.cells #[.int .i64 0, .int .i64 2] 3 (0, 0))]]) (cs := [.int .i64 0, .int .i64 2]) (e := 3) (by simp)).frz hz4
 refine TL.call hF (Serves_prog (l := [0, 2]) 1 h26 (by decide) (by decide)) rfl rfl ?_
 rintro _ _ ⟨rfl, segs, rfl⟩
 rw [show servesS [0, 2] 1 = (false, 1) by decide +kernel]
 refine TL.hsub _ (List.sublist_append_right _ _) ?_
 refine TL.move hF rfl rfl ?_
 refine TL.extract hF rfl rfl rfl ?_
 refine TL.extract hF rfl rfl rfl ?_
 refine TL.assign hF rfl rfl ?_
 refine TL.assign hF rfl rfl ?_
 refine TL.nil ?_
 refine TQ.then_n ?_
 refine T.seq ?_
 refine T.region ?_
 refine TL.buildSlice hF rfl (cs := #[.int .i64 0, .int .i64 1]) (e := 3) (fun w => by kernel_rfl) rfl (fun b31 => ?_)
 refine TL.freeze ([[(b31, Obj.cells #[.int .i64 0, .int .i64 1] 3 (0, 0))]]) rfl (fun S5 w5 hz5 => ?_)
 replace hb := hb.frz hz5
 replace hg := hg.old hz5
 replace h3 := h3.old hz5
 have h31 : Row S5 w5 [] (some ⟨b31, 0, none⟩) (ints [0, 1]) := (row_own (η := [[(b31, Obj.cells #[.int .i64 0, .int .i64 1] 3 (0, 0))]]) (cs := [.int .i64 0, .int .i64 1]) (e := 3) (by simp)).frz hz5
 refine TL.call hF (Serves_prog (l := [0, 1]) 4 h31 (by decide) (by decide)) rfl rfl ?_
 rintro _ _ ⟨rfl, segs, rfl⟩
 rw [show servesS [0, 1] 4 = (false, 2) by decide +kernel]
 refine TL.hsub _ (List.sublist_append_right _ _) ?_
 refine TL.move hF rfl rfl ?_
 refine TL.extract hF rfl rfl rfl ?_
 refine TL.extract hF rfl rfl rfl ?_
 refine TL.assign hF rfl rfl ?_
 refine TL.assign hF rfl rfl ?_
 refine TL.nil ?_
 refine TQ.then_n ?_
 refine T.seq ?_
 refine T.region ?_
 refine TL.move hF rfl rfl ?_
 refine TL.on rfl rfl rfl rfl ?_
 refine TL.move hF rfl rfl ?_
 refine TL.on rfl rfl rfl rfl ?_
 refine TL.bin hF rfl rfl rfl rfl ?_
 refine TL.pickT hF rfl rfl rfl rfl ?_
 refine TL.move hF rfl rfl ?_
 refine TL.on rfl rfl rfl rfl ?_
 refine TL.move hF rfl rfl ?_
 refine TL.on rfl rfl rfl rfl ?_
 refine TL.bin hF rfl rfl rfl rfl ?_
 refine TL.pickT hF rfl rfl rfl rfl ?_
 refine TL.move hF rfl rfl ?_
 refine TL.on rfl rfl rfl rfl ?_
 refine TL.move hF rfl rfl ?_
 refine TL.on rfl rfl rfl rfl ?_
 refine TL.move hF rfl rfl ?_
 refine TL.on rfl rfl rfl rfl ?_
 refine TL.bin hF rfl rfl rfl rfl ?_
 refine TL.pickT hF rfl rfl rfl rfl ?_
 refine TL.move hF rfl rfl ?_
 refine TL.on rfl rfl rfl rfl ?_
 refine TL.move hF rfl rfl ?_
 refine TL.on rfl rfl rfl rfl ?_
 refine TL.buildSlice hF rfl (cs := #[.int .i64 1, .int .i64 3]) (e := 3) (fun w => by kernel_rfl) rfl (fun b50 => ?_)
 refine TL.on rfl rfl rfl rfl ?_
 refine TL.buildSlice hF rfl (cs := #[.slice (some ⟨b50, 0, none⟩) 2 2]) (e := 22) (fun w => by kernel_rfl) rfl (fun b51 => ?_)
 refine TL.on rfl rfl rfl rfl ?_
 refine TL.callV hF (EqL_lit (L := [[1, 3]]) h3.ro (show LL _ _ _ (some ⟨b51, 0, none⟩) [(some ⟨b50, 0, none⟩, [1, 3], 2)] from ⟨row_own (cs := [.slice (some ⟨b50, 0, none⟩) 2 2]) (e := 22) (b := b51) (by simp), fun p hp => by
  simp only [List.mem_cons, List.not_mem_nil, or_false] at hp
  subst hp
  exact (row_own (cs := [.int .i64 1, .int .i64 3]) (e := 3) (b := b50) (by simp))⟩) t3 rfl (by decide) (by decide)) rfl rfl ?_
 refine TL.pickT hF rfl rfl rfl rfl ?_
 refine TL.move hF rfl rfl ?_
 refine TL.on rfl rfl rfl rfl ?_
 refine TL.move hF rfl rfl ?_
 refine TL.on rfl rfl rfl rfl ?_
 refine TL.move hF rfl rfl ?_
 refine TL.on rfl rfl rfl rfl ?_
 refine TL.bin hF rfl rfl rfl rfl ?_
 refine TL.pickT hF rfl rfl rfl rfl ?_
 refine TL.move hF rfl rfl ?_
 refine TL.on rfl rfl rfl rfl ?_
 refine TL.move hF rfl rfl ?_
 refine TL.on rfl rfl rfl rfl ?_
 refine TL.bin hF rfl rfl rfl rfl ?_
 refine TL.pickT hF rfl rfl rfl rfl ?_
 refine TL.move hF rfl rfl ?_
 refine TL.on rfl rfl rfl rfl ?_
 refine TL.move hF rfl rfl ?_
 refine TL.on rfl rfl rfl rfl ?_
 refine TL.bin hF rfl rfl rfl rfl ?_
 refine TL.pickT hF rfl rfl rfl rfl ?_
 refine TL.move hF rfl rfl ?_
 refine TL.on rfl rfl rfl rfl ?_
 refine TL.move hF rfl rfl ?_
 refine TL.on rfl rfl rfl rfl ?_
 refine TL.bin hF rfl rfl rfl rfl ?_
 refine TL.pickT hF rfl rfl rfl rfl ?_
 refine TL.move hF rfl rfl ?_
 refine TL.on rfl rfl rfl rfl ?_
 refine TL.buildSlice hF rfl (cs := #[.int .i64 1, .int .i64 1]) (e := 3) (fun w => by kernel_rfl) rfl (fun b72 => ?_)
 refine TL.on rfl rfl rfl rfl ?_
 refine TL.freeze ([[(b72, Obj.cells #[.int .i64 1, .int .i64 1] 3 (0, 0))]]) rfl (fun S6 w6 hz6 => ?_)
 replace hb := hb.frz hz6
 replace hg := hg.old hz6
 have h72 : Row S6 w6 [] (some ⟨b72, 0, none⟩) (ints [1, 1]) := (row_own (η := [[(b72, Obj.cells #[.int .i64 1, .int .i64 1] 3 (0, 0))]]) (cs := [.int .i64 1, .int .i64 1]) (e := 3) (by simp)).frz hz6
 refine TL.call hF (Check_prog (l := [1, 1]) 3 h72 (by decide) (by decide)) rfl rfl ?_
 rintro _ _ ⟨rfl, segs, rfl⟩
 rw [show checkE 3 [1, 1] = 5 by decide +kernel]
 refine TL.hsub _ (List.sublist_append_right _ _) ?_
 refine TL.on rfl rfl rfl rfl ?_
 refine TL.bin hF rfl rfl rfl rfl ?_
 refine TL.pickT hF rfl rfl rfl rfl ?_
 refine TL.move hF rfl rfl ?_
 refine TL.on rfl rfl rfl rfl ?_
 refine TL.call hF (Check_prog (l := []) (a := none) (c := 0) 11 Row.none (by decide) (by decide)) rfl rfl ?_
 rintro _ _ ⟨rfl, segs, rfl⟩
 rw [show checkE 11 [] = 1 by decide +kernel]
 refine TL.hsub _ (List.sublist_append_right _ _) ?_
 refine TL.on rfl rfl rfl rfl ?_
 refine TL.bin hF rfl rfl rfl rfl ?_
 refine TL.pickT hF rfl rfl rfl rfl ?_
 refine TL.move hF rfl rfl ?_
 refine TL.on rfl rfl rfl rfl ?_
 refine TL.makeSlice hF (k := 25) rfl rfl rfl (by decide) (by decide) rfl (fun b81 => ?_)
 refine TL.on rfl rfl rfl rfl ?_
 refine TL.freeze [[(b81, Obj.cells (List.replicate 25 (Value.int .i64 0)).toArray 3 (0, 0))]] rfl (fun S7 w7 hz7 => ?_)
 replace hb := hb.frz hz7
 replace hg := hg.old hz7
 have h81 : Row S7 w7 [] (some ⟨b81, 0, none⟩) (ints (List.replicate 25 0)) := by
  have h := (row_own (η := [[(b81, Obj.cells (List.replicate 25 (Value.int .i64 0)).toArray 3 (0, 0))]]) (cs := List.replicate 25 (Value.int .i64 0)) (e := 3) (b := b81) (S := S6) (w0 := w6) List.mem_cons_self).frz hz7
  rwa [show ints (List.replicate 25 0) = List.replicate 25 (Value.int .i64 0) by simp [ints]]
 refine TL.call hF (Check_prog (l := List.replicate 25 0) 10 h81 (by decide) (by decide)) rfl rfl ?_
 rintro _ _ ⟨rfl, segs, rfl⟩
 rw [show checkE 10 (List.replicate 25 0) = 3 by decide +kernel]
 refine TL.hsub _ (List.sublist_append_right _ _) ?_
 refine TL.on rfl rfl rfl rfl ?_
 refine TL.bin hF rfl rfl rfl rfl ?_
 refine TL.pickT hF rfl rfl rfl rfl ?_
 refine TL.move hF rfl rfl ?_
 refine TL.on rfl rfl rfl rfl ?_
 refine TL.hsub [] (List.nil_sublist _) ?_
 refine TL.call hF (awake_fn hg) rfl rfl ?_
 rintro _ _ rfl
 refine TL.pickT hF rfl rfl rfl rfl ?_
 refine TL.assign hF rfl rfl ?_
 refine TL.nil ?_
 refine TQ.then_n ?_
 refine T.ret ?_
 exact TQ.retsF [0] _ hb rfl rfl rfl (fun _ => rfl)
end Go.Proofs.YtfnalecnnmkgbaaDoor
namespace Go.Proofs.YtfnalecnnmkgbaaDoor
open Go.Sl Go.ChangeShapes Go.WideShapes Go.ChangeAt Go.RowKit
set_option maxRecDepth 100000 in
theorem chainNames_lifted (os : Os) (started : os.Started) (H : Type) (enc : TypeId × Value → H) :
    ReturnsInHanded {} Tryd.checked os 10 .any (fun w args => (Rows.chainNamesSpec.pre enc Tryd.prog Tryd.f10 [] false w args ∧ laidMetH Tryd.prog laidL w) ∧ sizedMet enc Tryd.prog Tryd.f10 (OpenSpec.ofChange Rows.chainNamesSpec) false w args)
      (Rows.chainNamesSpec.post enc Tryd.prog Tryd.f10 false true false false) := by
  refine returnsInHanded_of_change_and (C := Tryd.checked) (X := fun w _ => laidMetH Tryd.prog laidL w) (fun _ _ _ hh h => h.of_heap hh) Tryd.own started (by kernel_rfl) Tryd.func10
    (ChangeSpec.witness_shaped (enc := enc) (C := Tryd.checked) (os := os) (X := fun w _ => laidMetH Tryd.prog laidL w) false (World.doorLaid Tryd.prog 2000 os) #[] 8 rfl (World.shaped_of_RefB (by kernel_rfl) (by kernel_rfl)) (by kernel_rfl) (by kernel_rfl) (by kernel_rfl) (door_met os _)) ?_
  intro W base args ds gs before hval0 hW _ hwt hL _
  have hval' : ∀ (j : Nat) t v, Tryd.f10.params[j]? = some t → args[j]? = some v → Value.okWide Tryd.prog W .any base t v := hval0
  have hW' := hW
  obtain ⟨p, q, hA0, hV, rfl, hfz, hnd⟩ := hW
  have hA : DataW.TrodAll enc Tryd.prog W 0 (fun _ => true) true [] args.toList ds p := hA0
  obtain ⟨ha, rfl, rfl⟩ := trodAll_nil hA
  obtain rfl : args = #[] := by cases args; simpa using ha
  refine (calls_true (ChainNames_fn (kinds_of_laid hL))).mono fun e W' ⟨he, hw⟩ => ⟨_, he, ?_⟩
  exact law_post (f := Tryd.f10) Tryd.laidOut rfl 4 rfl u4 hW' rfl (by decide +kernel) hw
theorem chainNames_said : Rows.ChainNamesSaid :=
  OpenClaim.holds_of_wide 10 Tryd.f10 rfl rfl rfl rfl rfl rfl rfl ⟨rfl, rfl, rfl, rfl, rfl⟩ rfl rfl rfl rfl rfl (by kernel_rfl) Tryd.func10 (by kernel_rfl)
    (of_decide_eq_true (by kernel_rfl)) (by unfold Func.isWrapper; first | (rw [if_pos (by decide +kernel)]; kernel_rfl) | (rw [if_neg (by decide +kernel)]; exact ⟨rfl, rfl⟩))
    (fun os started H enc _ => chainNames_lifted os started H enc)
theorem chainNames_holds : Rows.ChainNamesCardSaid :=
  Claim7.holds_tied_plain_at .later [] [.funcs] true (true, "7ca215f89dcb56192907894ebb202dba9dfd88656de70e05d24e69a29da322ff") true
    chainNames_said (fun _ h => by cases h) (by kernel_rfl) (fun _ h => by cases h) chainNames_row_tie rfl ⟨rfl, rfl⟩ (by kernel_rfl) rfl
    (fun f fn hf hfn => by
      obtain rfl : f = 10 := Option.some.inj ((show Tryd.prog.funcNamed "deltaworks/deltaworkslaw17.ChainNames" = some 10 by kernel_rfl).symm.trans hf) |>.symm
      obtain rfl : fn = Tryd.f10 := (Option.some.inj (Tryd.func10.symm.trans hfn)).symm
      exact ⟨by kernel_rfl, fun j t ht => by
        have ht2 : (#[] : Array TypeId)[j]? = some t := ht
        have hm : t ∈ ([] : List TypeId) := by simpa using Array.mem_of_getElem? ht2
        have hall : (([] : List TypeId).all fun u => !Tryd.prog.wantsStandIn u) = true := by kernel_rfl
        exact (show Tryd.prog.wantsStandIn t = false by simpa using List.all_eq_true.1 hall t hm)⟩)
    (by kernel_rfl)
#print axioms chainNames_holds
end Go.Proofs.YtfnalecnnmkgbaaDoor
