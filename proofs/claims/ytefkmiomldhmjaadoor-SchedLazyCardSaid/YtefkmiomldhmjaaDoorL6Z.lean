/- Without eager nodes, and without asks, nothing is ever looked at; a node that is asked for at the last instant alone has the word from scratch, each node that it needs being computed once: for every input. No condition. -/
import Derived.Test.YtefkmiomldhmjaaDoorQi
import Derived.Test.YtefkmiomldhmjaaDoorQe
import Derived.Test.YtefkmiomldhmjaaDoorCards
import Derived.Test.YtefkmiomldhmjaaDoorTie
namespace Go.Proofs.YtefkmiomldhmjaaDoor
open Go.Sl Go.ChangeShapes Go.WideShapes Go.ChangeAt Go.RowKit
set_option maxRecDepth 100000 in
theorem schedLazy_lifted (os : Os) (started : os.Started) (H : Type) (enc : TypeId × Value → H) :
    ReturnsInHanded {} Tryd.checked os 8 .any (fun w args => (Rows.schedLazySpec.pre enc Tryd.prog Tryd.f8 [] false w args ∧ laidMetH Tryd.prog laidL w) ∧ sizedMet enc Tryd.prog Tryd.f8 (OpenSpec.ofChange Rows.schedLazySpec) false w args)
      (Rows.schedLazySpec.post enc Tryd.prog Tryd.f8 false true false false) := by
  refine returnsInHanded_of_change_and (C := Tryd.checked) (X := fun w _ => laidMetH Tryd.prog laidL w) (fun _ _ _ hh h => h.of_heap hh) Tryd.own started (by kernel_rfl) Tryd.func8
    (ChangeSpec.witness_shaped (enc := enc) (C := Tryd.checked) (os := os) (X := fun w _ => laidMetH Tryd.prog laidL w) false (World.doorLaid Tryd.prog 2000 os) #[.slice none 0 0, .slice none 0 0, .int .u8 0] 8 rfl (World.shaped_of_RefB (by kernel_rfl) (by kernel_rfl)) (by kernel_rfl) (by kernel_rfl) (by kernel_rfl) (door_met os _)) ?_
  intro W base args ds gs before hval0 hW _ hwt hL _
  have hval' : ∀ (j : Nat) t v, Tryd.f8.params[j]? = some t → args[j]? = some v → Value.okWide Tryd.prog W .any base t v := hval0
  have hW' := hW
  obtain ⟨p, q, hA0, hV, rfl, hfz, hnd⟩ := hW
  have hA : DataW.TrodAll enc Tryd.prog W 0 (fun _ => true) true [43, 43, 5] args.toList ds p := hA0
  obtain ⟨v0, v1, v2, d0, d1, d2, p0, p1, p2, rfl, rfl, rfl, h0, h1, h2⟩ := trodAll_three hA
  obtain ⟨_, _, _, rfl⟩ := okWide_slice u43 (hval' 0 43 v0 rfl rfl)
  obtain ⟨_, h0⟩ := h0
  obtain ⟨a0, xs0, c0, e0, hc0, hl0, hx0, hb0⟩ := nats_read 4294967296 b32 u43 u95 k95 h0
  obtain ⟨_, _, _, rfl⟩ := okWide_slice u43 (hval' 1 43 v1 rfl rfl)
  obtain ⟨_, h1⟩ := h1
  obtain ⟨a1, xs1, c1, e1, hc1, hl1, hx1, hb1⟩ := nats_read 4294967296 b32 u43 u95 k95 h1
  obtain ⟨z2, rfl, _, _, wz2⟩ := open_int u5 (hval' 2 5 v2 rfl rfl) h2
  obtain ⟨hz2, hy2⟩ := wf_u8 wz2
  obtain ⟨m2, rfl⟩ : ∃ m : Nat, z2 = (m : Int) := ⟨z2.toNat, by omega⟩
  rw [e0, e1] at hW' ⊢
  refine (calls_true (SchedLazy_fn (kinds_of_laid hL) hx0 hx1 hl0 hl1 hc0 hc1 hb0 hb1 (by omega))).mono fun e W' ⟨he, hw⟩ => ⟨_, he, ?_⟩
  exact law_post (f := Tryd.f8) Tryd.laidOut rfl 4 rfl u4 hW' rfl (by decide +kernel) hw
theorem schedLazy_said : Rows.SchedLazySaid :=
  OpenClaim.holds_of_wide 8 Tryd.f8 rfl rfl rfl rfl rfl rfl rfl ⟨rfl, rfl, rfl, rfl, rfl⟩ rfl rfl rfl rfl rfl (by kernel_rfl) Tryd.func8 (by kernel_rfl)
    (of_decide_eq_true (by kernel_rfl)) (by unfold Func.isWrapper; first | (rw [if_pos (by decide +kernel)]; kernel_rfl) | (rw [if_neg (by decide +kernel)]; exact ⟨rfl, rfl⟩))
    (fun os started H enc _ => schedLazy_lifted os started H enc)
theorem schedLazy_holds : Rows.SchedLazyCardSaid :=
  Claim7.holds_tied_plain_at .later [] [.funcs] true (true, "6cefc2b1bde1bf2d2e4736b735a5958b626a85f4efefb8667d0802a26e43de39") true
    schedLazy_said (fun _ h => by cases h) (by kernel_rfl) (fun _ h => by cases h) schedLazy_row_tie rfl ⟨rfl, rfl⟩ (by kernel_rfl) rfl
    (fun f fn hf hfn => by
      obtain rfl : f = 8 := Option.some.inj ((show Tryd.prog.funcNamed "deltaworks/deltaworkslaw26.SchedLazy" = some 8 by kernel_rfl).symm.trans hf) |>.symm
      obtain rfl : fn = Tryd.f8 := (Option.some.inj (Tryd.func8.symm.trans hfn)).symm
      exact ⟨by kernel_rfl, fun j t ht => by
        have ht2 : (#[43, 43, 5] : Array TypeId)[j]? = some t := ht
        have hm : t ∈ ([43, 43, 5] : List TypeId) := by simpa using Array.mem_of_getElem? ht2
        have hall : (([43, 43, 5] : List TypeId).all fun u => !Tryd.prog.wantsStandIn u) = true := by kernel_rfl
        exact (show Tryd.prog.wantsStandIn t = false by simpa using List.all_eq_true.1 hall t hm)⟩)
    (by kernel_rfl)
#print axioms schedLazy_holds
end Go.Proofs.YtefkmiomldhmjaaDoor
