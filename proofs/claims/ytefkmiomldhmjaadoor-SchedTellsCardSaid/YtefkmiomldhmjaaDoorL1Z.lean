/- Heights, words from scratch, what is computed, what is asked for, the words of eager nodes, and how often nodes are looked at, are the document's, or why they are not known: for every input. No condition. -/
import Derived.Test.YtefkmiomldhmjaaDoorPf
import Derived.Test.YtefkmiomldhmjaaDoorCards
import Derived.Test.YtefkmiomldhmjaaDoorTie
namespace Go.Proofs.YtefkmiomldhmjaaDoor
open Go.Sl Go.ChangeShapes Go.WideShapes Go.ChangeAt Go.RowKit
set_option maxRecDepth 100000 in
theorem schedTells_lifted (os : Os) (started : os.Started) (H : Type) (enc : TypeId × Value → H) :
    ReturnsInHanded {} Tryd.checked os 3 .any (fun w args => (Rows.schedTellsSpec.pre enc Tryd.prog Tryd.f3 [] false w args ∧ laidMetH Tryd.prog laidL w) ∧ sizedMet enc Tryd.prog Tryd.f3 (OpenSpec.ofChange Rows.schedTellsSpec) false w args)
      (Rows.schedTellsSpec.post enc Tryd.prog Tryd.f3 false true false false) := by
  refine returnsInHanded_of_change_and (C := Tryd.checked) (X := fun w _ => laidMetH Tryd.prog laidL w) (fun _ _ _ hh h => h.of_heap hh) Tryd.own started (by kernel_rfl) Tryd.func3
    (ChangeSpec.witness_shaped (enc := enc) (C := Tryd.checked) (os := os) (X := fun w _ => laidMetH Tryd.prog laidL w) false (World.doorLaid Tryd.prog 2000 os) #[.slice none 0 0, .slice none 0 0, .slice none 0 0, .slice none 0 0] 8 rfl (World.shaped_of_RefB (by kernel_rfl) (by kernel_rfl)) (by kernel_rfl) (by kernel_rfl) (by kernel_rfl) (door_met os _)) ?_
  intro W base args ds gs before hval0 hW _ hwt hL _
  have hval' : ∀ (j : Nat) t v, Tryd.f3.params[j]? = some t → args[j]? = some v → Value.okWide Tryd.prog W .any base t v := hval0
  have hW' := hW
  obtain ⟨p, q, hA0, hV, rfl, hfz, hnd⟩ := hW
  have hA : DataW.TrodAll enc Tryd.prog W 0 (fun _ => true) true [22, 23, 24, 24] args.toList ds p := hA0
  obtain ⟨v0, v1, v2, v3, d0, d1, d2, d3, p0, p1, p2, p3, rfl, rfl, rfl, h0, h1, h2, h3⟩ := trodAll_four hA
  obtain ⟨_, _, _, rfl⟩ := okWide_slice u22 (hval' 0 22 v0 rfl rfl)
  obtain ⟨_, h0⟩ := h0
  obtain ⟨_, _, _, rfl⟩ := okWide_slice u23 (hval' 1 23 v1 rfl rfl)
  obtain ⟨_, h1⟩ := h1
  obtain ⟨_, _, _, rfl⟩ := okWide_slice u24 (hval' 2 24 v2 rfl rfl)
  obtain ⟨_, h2⟩ := h2
  obtain ⟨_, _, _, rfl⟩ := okWide_slice u24 (hval' 3 24 v3 rfl rfl)
  obtain ⟨_, h3⟩ := h3
  obtain ⟨a0, l0, c0, e0, hn, hl, hfl⟩ := nodes_read h0
  obtain ⟨a1, l1, c1, e1, hi, hal, hil⟩ := insts_read h1
  obtain ⟨a2, l2, c2, e2, hp, hpl⟩ := ints_arg h2
  obtain ⟨a3, l3, c3, e3, hw, _⟩ := ints_arg h3
  rw [e0, e1, e2, e3] at hW' ⊢
  refine (calls_true (SchedTells_fn (kinds_of_laid hL) hn hi hp hw hl hfl hal hil hpl)).mono fun e W' ⟨he, hw⟩ => ⟨_, he, ?_⟩
  exact law_post (f := Tryd.f3) Tryd.laidOut rfl 4 rfl u4 hW' rfl (by decide +kernel) hw
theorem schedTells_said : Rows.SchedTellsSaid :=
  OpenClaim.holds_of_wide 3 Tryd.f3 rfl rfl rfl rfl rfl rfl rfl ⟨rfl, rfl, rfl, rfl, rfl⟩ rfl rfl rfl rfl rfl (by kernel_rfl) Tryd.func3 (by kernel_rfl)
    (of_decide_eq_true (by kernel_rfl)) (by unfold Func.isWrapper; first | (rw [if_pos (by decide +kernel)]; kernel_rfl) | (rw [if_neg (by decide +kernel)]; exact ⟨rfl, rfl⟩))
    (fun os started H enc _ => schedTells_lifted os started H enc)
theorem schedTells_holds : Rows.SchedTellsCardSaid :=
  Claim7.holds_tied_plain_at .later [] [.funcs] true (true, "6cefc2b1bde1bf2d2e4736b735a5958b626a85f4efefb8667d0802a26e43de39") true
    schedTells_said (fun _ h => by cases h) (by kernel_rfl) (fun _ h => by cases h) schedTells_row_tie rfl ⟨rfl, rfl⟩ (by kernel_rfl) rfl
    (fun f fn hf hfn => by
      obtain rfl : f = 3 := Option.some.inj ((show Tryd.prog.funcNamed "deltaworks/deltaworkslaw26.SchedTells" = some 3 by kernel_rfl).symm.trans hf) |>.symm
      obtain rfl : fn = Tryd.f3 := (Option.some.inj (Tryd.func3.symm.trans hfn)).symm
      exact ⟨by kernel_rfl, fun j t ht => by
        have ht2 : (#[22, 23, 24, 24] : Array TypeId)[j]? = some t := ht
        have hm : t ∈ ([22, 23, 24, 24] : List TypeId) := by simpa using Array.mem_of_getElem? ht2
        have hall : (([22, 23, 24, 24] : List TypeId).all fun u => !Tryd.prog.wantsStandIn u) = true := by kernel_rfl
        exact (show Tryd.prog.wantsStandIn t = false by simpa using List.all_eq_true.1 hall t hm)⟩)
    (by kernel_rfl)
#print axioms schedTells_holds
end Go.Proofs.YtefkmiomldhmjaaDoor
