/- Whether an order serves a search is the document's, or why it is not known: for every input. No condition. -/
import Derived.Test.YtfnalecnnmkgbaaDoorTe
import Derived.Test.YtfnalecnnmkgbaaDoorCards
import Derived.Test.YtfnalecnnmkgbaaDoorTie
namespace Go.Proofs.YtfnalecnnmkgbaaDoor
open Go.Sl Go.ChangeShapes Go.WideShapes Go.ChangeAt Go.RowKit
set_option maxRecDepth 100000 in
theorem chainServes_lifted (os : Os) (started : os.Started) (H : Type) (enc : TypeId × Value → H) :
    ReturnsInHanded {} Tryd.checked os 4 .any (fun w args => (Rows.chainServesSpec.pre enc Tryd.prog Tryd.f4 [] false w args ∧ laidMetH Tryd.prog laidL w) ∧ sizedMet enc Tryd.prog Tryd.f4 (OpenSpec.ofChange Rows.chainServesSpec) false w args)
      (Rows.chainServesSpec.post enc Tryd.prog Tryd.f4 false true false false) := by
  refine returnsInHanded_of_change_and (C := Tryd.checked) (X := fun w _ => laidMetH Tryd.prog laidL w) (fun _ _ _ hh h => h.of_heap hh) Tryd.own started (by kernel_rfl) Tryd.func4
    (ChangeSpec.witness_shaped (enc := enc) (C := Tryd.checked) (os := os) (X := fun w _ => laidMetH Tryd.prog laidL w) false (World.doorLaid Tryd.prog 2000 os) #[.slice none 0 0, .int .i64 0] 8 rfl (World.shaped_of_RefB (by kernel_rfl) (by kernel_rfl)) (by kernel_rfl) (by kernel_rfl) (by kernel_rfl) (door_met os _)) ?_
  intro W base args ds gs before hval0 hW _ hwt hL _
  have hval' : ∀ (j : Nat) t v, Tryd.f4.params[j]? = some t → args[j]? = some v → Value.okWide Tryd.prog W .any base t v := hval0
  have hW' := hW
  obtain ⟨p, q, hA0, hV, rfl, hfz, hnd⟩ := hW
  have hA : DataW.TrodAll enc Tryd.prog W 0 (fun _ => true) true [22, 3] args.toList ds p := hA0
  obtain ⟨v0, v1, d0, d1, p0, p1, rfl, rfl, rfl, h0, h1⟩ := trodAll_two hA
  obtain ⟨_, _, _, rfl⟩ := okWide_slice u22 (hval' 0 22 v0 rfl rfl)
  obtain ⟨_, h0⟩ := h0
  obtain ⟨a0, xs0, c0, e0, hx0, hl0, hc0⟩ := ints_arg h0
  obtain ⟨z1, rfl, _, _, wz1⟩ := open_int u3 (hval' 1 3 v1 rfl rfl) h1
  rw [e0] at hW' ⊢
  refine (calls_true (ChainServes_fn z1 (kinds_of_laid hL) hx0 hl0 hc0)).mono fun e W' ⟨he, hw⟩ => ⟨_, he, ?_⟩
  exact law_post (f := Tryd.f4) Tryd.laidOut rfl 4 rfl u4 hW' rfl (by decide +kernel) hw
theorem chainServes_said : Rows.ChainServesSaid :=
  OpenClaim.holds_of_wide 4 Tryd.f4 rfl rfl rfl rfl rfl rfl rfl ⟨rfl, rfl, rfl, rfl, rfl⟩ rfl rfl rfl rfl rfl (by kernel_rfl) Tryd.func4 (by kernel_rfl)
    (of_decide_eq_true (by kernel_rfl)) (by unfold Func.isWrapper; first | (rw [if_pos (by decide +kernel)]; kernel_rfl) | (rw [if_neg (by decide +kernel)]; exact ⟨rfl, rfl⟩))
    (fun os started H enc _ => chainServes_lifted os started H enc)
theorem chainServes_holds : Rows.ChainServesCardSaid :=
  Claim7.holds_tied_plain_at .later [] [.funcs] true (true, "7ca215f89dcb56192907894ebb202dba9dfd88656de70e05d24e69a29da322ff") true
    chainServes_said (fun _ h => by cases h) (by kernel_rfl) (fun _ h => by cases h) chainServes_row_tie rfl ⟨rfl, rfl⟩ (by kernel_rfl) rfl
    (fun f fn hf hfn => by
      obtain rfl : f = 4 := Option.some.inj ((show Tryd.prog.funcNamed "deltaworks/deltaworkslaw17.ChainServes" = some 4 by kernel_rfl).symm.trans hf) |>.symm
      obtain rfl : fn = Tryd.f4 := (Option.some.inj (Tryd.func4.symm.trans hfn)).symm
      exact ⟨by kernel_rfl, fun j t ht => by
        have ht2 : (#[22, 3] : Array TypeId)[j]? = some t := ht
        have hm : t ∈ ([22, 3] : List TypeId) := by simpa using Array.mem_of_getElem? ht2
        have hall : (([22, 3] : List TypeId).all fun u => !Tryd.prog.wantsStandIn u) = true := by kernel_rfl
        exact (show Tryd.prog.wantsStandIn t = false by simpa using List.all_eq_true.1 hall t hm)⟩)
    (by kernel_rfl)
#print axioms chainServes_holds
end Go.Proofs.YtfnalecnnmkgbaaDoor
