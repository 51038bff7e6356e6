/- The blocks, the reason, the levels, and what a change can reach, are the document's, or why they are not known: for every input. No condition. -/
import Derived.Test.YtdehpaikapbckaaPg
namespace Go.Proofs.Ytdehpaikapbckaa
open Go.Sl Go.ChangeShapes Go.WideShapes Go.ChangeAt Go.RowKit
set_option maxRecDepth 100000 in
theorem stratTells_lifted (os : Os) (started : os.Started) (H : Type) (enc : TypeId × Value → H) :
    ReturnsInHanded {} Try.checked os 3 .any (Rows.stratTellsSpec.pre6 enc Try.prog Try.f3 Rows.stratTellsRow.domain false) (Rows.stratTellsSpec.post enc Try.prog Try.f3 false true false false) := by
  refine returnsInHanded_of_change (C := Try.checked) Try.own started (by kernel_rfl) Try.func3
    (ChangeSpec.witness6 (enc := enc) (C := Try.checked) false ⟨#[], #[.int .i64 0, .slice none 0 0, .slice none 0 0], []⟩ 8 (by kernel_rfl) (by kernel_rfl) (by kernel_rfl) (by kernel_rfl)) ?_
  intro W base args ds gs before hval hW hcnd _
  have hW' := hW
  obtain ⟨p, q, hA0, hV, rfl, hfz, hnd⟩ := hW
  have hA : DataW.TrodAll enc Try.prog W 0 (fun _ => true) true [3, 22, 23] args.toList ds p := hA0
  have hval' : ∀ (j : Nat) t v, (#[3, 22, 23] : Array TypeId)[j]? = some t → args[j]? = some v → Value.okWide Try.prog W .any base t v := hval
  obtain ⟨v0, v1, v2, d0, d1, d2, p0, p1, p2, rfl, rfl, rfl, h0, h1, h2⟩ := trodAll_three hA
  obtain ⟨z, rfl, _, _, _⟩ := open_int u3 (hval' 0 3 v0 rfl rfl) h0
  obtain ⟨_, _, _, rfl⟩ := okWide_slice u22 (hval' 1 22 v1 rfl rfl)
  obtain ⟨_, _, _, rfl⟩ := okWide_slice u23 (hval' 2 23 v2 rfl rfl)
  obtain ⟨_, h1⟩ := h1
  obtain ⟨_, h2⟩ := h2
  obtain ⟨a1, rs, c1, e1, hr, hl, hbl⟩ := rules_read h1
  obtain ⟨a2, fr, c2, e2, _, hfr, _⟩ := ints_read u23 u3 k3 h2
  rw [e1, e2] at hW' ⊢
  refine (calls_true (StratTells_fn z hr hl hbl hfr)).mono fun e W' ⟨he, hw⟩ => ⟨_, he, ?_⟩
  exact law_post (f := Try.f3) Try.laidOut rfl 4 rfl u4 hW' rfl (by decide +kernel) hw
theorem stratTells_holds : Rows.StratTellsSaid :=
  OpenClaim.holds_of_wide 3 Try.f3 rfl rfl rfl rfl rfl rfl rfl ⟨rfl, rfl, rfl, rfl, rfl⟩ rfl rfl rfl rfl rfl (by kernel_rfl) Try.func3 (by kernel_rfl)
    (of_decide_eq_true (by kernel_rfl)) (by unfold Func.isWrapper; first | (rw [if_pos (by decide +kernel)]; kernel_rfl) | (rw [if_neg (by decide +kernel)]; exact ⟨rfl, rfl⟩))
    (fun os started H enc _ => stratTells_lifted os started H enc)
#print axioms stratTells_holds
end Go.Proofs.Ytdehpaikapbckaa
