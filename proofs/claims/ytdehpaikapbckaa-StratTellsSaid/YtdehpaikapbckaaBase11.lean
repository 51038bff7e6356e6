/- Copies. -/
import Derived.Test.YtdehpaikapbckaaBase10
namespace Go.Sl
section
variable {F : Fence} {P : Program} {S : Nat → Prop} {w0 w : World} {n : Nat} {Q : Exit → Act → World → Prop} {ds : List Deferred} {σ : Env} {η : Heap} {ops : Array Oper} {rest : List Oper} {d : Nat} {ty : TypeId} {pos : String} {af : Array Edge}

/-- A copy, into a part of an owned block. -/
theorem TL.copy (hF : Open F) (i : Nat) {t ts e : TypeId} [Und P t (.slice e)] {z : Value} {sz bt : Nat} [Inf P e z sz bt] {x y : Operand} {g o dl dc m mc k : Nat} {a : Option Addr} {cs : List Value} {e' : TypeId} (news new : List Value) (hx : ev σ x = some (.slice (some ⟨g, o, none⟩) dl dc)) (hy : ev σ y = some (.slice a m mc))
    (hi : η[i]? = some [(g, .cells cs.toArray e' (0, 0))]) (hk : k = min m dl) (hs : Row S w0 η a news) (hl : news.length = k * sz) (h1 : ∀ u ∈ news, u.oneCell' = true) (ho : o + k * sz ≤ cs.length) (hnew : cs.take o ++ news ++ cs.drop (o + k * sz) = new) (hn : Nat.blt d n = true)
    (h : TL F P S w0 n ops Q rest ds ((d, .int .i64 (k : Int)) :: σ) (η.set i [(g, .cells new.toArray e' (0, 0))])) :
    TL F P S w0 n ops Q (⟨some d, .call ⟨.builtin .copy, #[x, y], #[t, ts]⟩, ty, pos, af, none⟩ :: rest) ds σ η :=
  TL.val hF (by intro c; simp) hn fun b w hkn hh => by
    have hg := hh.inMem (List.mem_of_getElem? hi)
    have hfc : (Builtin.firstCells sz k (.slice a m mc)).run P w = .ok news.toArray w := by
      have h0 := run_firstCells (P := P) (m := k) (c := mc) hs hl hh
      cases a <;> exact h0
    have hst := run_storeCells (P := P) (e := e') (b := g) news cs.toArray o 0 w hg (by simp; omega) h1
    simp only [Nat.add_zero] at hst
    rw [foldl_set _ _ _ (by simp; omega)] at hst
    have hnew' : (cs.toArray.toList.take o ++ news ++ cs.toArray.toList.drop (o + news.length)) = new := by rw [hl]; exact hnew
    rw [hnew'] at hst
    refine ⟨.int .i64 (k : Int), _, _, ?_, hh.turnI hi _, h⟩
    have hk' : Nat.min m dl = k := hk.symm
    have e2 : (Builtin.copy_ #[t, ts] ty #[.slice (some ⟨g, o, none⟩) dl dc, .slice a m mc]).run P w = .ok (.int .i64 (k : Int)) (putBlk w g (.cells new.toArray e' (0, 0))) := by
      simp [Builtin.copy_, run_underlying (t := t) (d := .slice e), run_sizeOf (t := e) (z := z) (sz := sz) (bt := bt), Builtin.lenOf, hk', hfc, hst, goInt]
    simp [execOp, resolve, Go.invoke, Go.builtin, hkn.ev hx, hkn.ev hy, e2]
end
end Go.Sl
