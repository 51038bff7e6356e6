/- Integers of other kinds: sums, products, bits, shifts, remainders, conversions. -/
import Derived.Test.YtdehpaikapbckaaBase11
namespace Go.Sl
theorem wrap_u {k : IntKind} (hs : k.signed = false) {a : Int} (h0 : 0 ≤ a) (h1 : a < 2 ^ k.bits) : k.wrap a = a := by
  unfold IntKind.wrap
  simp only [hs, Bool.false_and, Bool.false_eq_true, if_false]
  exact Int.emod_eq_of_lt h0 h1
theorem wrap_u64 {a : Int} (h0 : 0 ≤ a) (h1 : a < 18446744073709551616) : IntKind.u64.wrap a = a := wrap_u rfl h0 (by simpa [IntKind.bits] using h1)
section
variable {F : Fence} {P : Program} {S : Nat → Prop} {w0 w : World} {n : Nat} {Q : Exit → Act → World → Prop} {ds : List Deferred} {σ : Env} {η : Heap} {ops : Array Oper} {rest : List Oper} {d : Nat} {ty : TypeId} {pos : String} {af : Array Edge}
theorem TL.addK (hF : Open F) {xt yt : TypeId} {x y : Operand} {k : IntKind} {a b r : Int} (hx : ev σ x = some (.int k a)) (hy : ev σ y = some (.int k b)) (hr : k.wrap (a + b) = r) (hn : Nat.blt d n = true)
    (h : TL F P S w0 n ops Q rest ds ((d, .int k r) :: σ) η) : TL F P S w0 n ops Q (⟨some d, .binOp .add xt x y yt, ty, pos, af, none⟩ :: rest) ds σ η := TL.bin hF hx hy (by simp [intOp, hr]) hn h
theorem TL.subK (hF : Open F) {xt yt : TypeId} {x y : Operand} {k : IntKind} {a b r : Int} (hx : ev σ x = some (.int k a)) (hy : ev σ y = some (.int k b)) (hr : k.wrap (a - b) = r) (hn : Nat.blt d n = true)
    (h : TL F P S w0 n ops Q rest ds ((d, .int k r) :: σ) η) : TL F P S w0 n ops Q (⟨some d, .binOp .sub xt x y yt, ty, pos, af, none⟩ :: rest) ds σ η := TL.bin hF hx hy (by simp [intOp, hr]) hn h
theorem TL.mulK (hF : Open F) {xt yt : TypeId} {x y : Operand} {k : IntKind} {a b r : Int} (hx : ev σ x = some (.int k a)) (hy : ev σ y = some (.int k b)) (hr : k.wrap (a * b) = r) (hn : Nat.blt d n = true)
    (h : TL F P S w0 n ops Q rest ds ((d, .int k r) :: σ) η) : TL F P S w0 n ops Q (⟨some d, .binOp .mul xt x y yt, ty, pos, af, none⟩ :: rest) ds σ η := TL.bin hF hx hy (by simp [intOp, hr]) hn h
theorem TL.convK (hF : Open F) {s t : TypeId} {d1 : TypeDesc} {k k' : IntKind} [Und P s d1] [Und P t (.int k)] {x : Operand} {a r : Int} (hx : ev σ x = some (.int k' a)) (hr : k.wrap a = r) (hn : Nat.blt d n = true)
    (h : TL F P S w0 n ops Q rest ds ((d, .int k r) :: σ) η) : TL F P S w0 n ops Q (⟨some d, .convert s t x, ty, pos, af, none⟩ :: rest) ds σ η :=
  TL.pure hF (by intro c; simp) hn (fun a w hk _ => by simp [execOp, hk.ev hx, convert, run_underlying (t := s) (d := d1), run_underlying (t := t) (d := .int k), Conv.intToInt, hr]) h
theorem and_toNat {b a m : Nat} (ha : a < 2 ^ b) (hm : m < 2 ^ b) : (BitVec.ofInt b (a : Int) &&& BitVec.ofInt b (m : Int)).toNat = a &&& m := by
  rw [BitVec.toNat_and, BitVec.ofInt_natCast, BitVec.ofInt_natCast, BitVec.toNat_ofNat, BitVec.toNat_ofNat, Nat.mod_eq_of_lt ha, Nat.mod_eq_of_lt hm]
theorem TL.andN (hF : Open F) {xt yt : TypeId} {x y : Operand} {k : IntKind} {a m : Nat} (hx : ev σ x = some (.int k (a : Int))) (hy : ev σ y = some (.int k (m : Int))) (hs : k.signed = false) (ha : a < 2 ^ k.bits) (hm : m < 2 ^ k.bits) (hn : Nat.blt d n = true)
    (h : TL F P S w0 n ops Q rest ds ((d, .int k ((a &&& m : Nat) : Int)) :: σ) η) : TL F P S w0 n ops Q (⟨some d, .binOp .and xt x y yt, ty, pos, af, none⟩ :: rest) ds σ η :=
  TL.pure hF (by intro c; simp) hn (fun b w hk _ => by
    have hle : a &&& m ≤ a := Nat.and_le_left
    have hw : k.wrap ((a &&& m : Nat) : Int) = ((a &&& m : Nat) : Int) := wrap_u hs (by omega) (by
      have : ((a &&& m : Nat) : Int) < ((2 ^ k.bits : Nat) : Int) := by omega
      simpa using this)
    have hb : (Op.intBits .and k (a : Int) (m : Int)).run P w = .ok (.int k ((a &&& m : Nat) : Int)) w := by
      unfold Op.intBits
      simp only [and_toNat ha hm, Sem.run_pure, hw]
    simp [execOp, hk.ev hx, hk.ev hy, eqGuard, binOp, hb]) h
theorem TL.shrN (hF : Open F) {xt yt : TypeId} {x y : Operand} {k yk : IntKind} {a s : Nat} (hx : ev σ x = some (.int k (a : Int))) (hy : ev σ y = some (.int yk (s : Int))) (hs : s ≤ k.bits) (hn : Nat.blt d n = true)
    (h : TL F P S w0 n ops Q rest ds ((d, .int k ((a / 2 ^ s : Nat) : Int)) :: σ) η) : TL F P S w0 n ops Q (⟨some d, .binOp .shr xt x y yt, ty, pos, af, none⟩ :: rest) ds σ η :=
  TL.pure hF (by intro c; simp) hn (fun b w hk _ => by
    have hb : (Op.shift .shr k (a : Int) yk (s : Int)).run P w = .ok (.int k ((a / 2 ^ s : Nat) : Int)) w := by
      unfold Op.shift
      rw [if_neg (by omega)]
      have e : min ((s : Int).toNat) k.bits = s := by rw [Int.toNat_natCast]; exact Nat.min_eq_left hs
      simp only [e, Sem.run_pure]
      rw [Int.fdiv_eq_ediv_of_nonneg _ (by exact_mod_cast Nat.zero_le (2 ^ s))]
      congr 2
    simp [execOp, hk.ev hx, hk.ev hy, eqGuard, binOp, hb]) h
theorem TL.remN (hF : Open F) {xt yt : TypeId} {x y : Operand} {k : IntKind} {a b : Nat} (hx : ev σ x = some (.int k (a : Int))) (hy : ev σ y = some (.int k (b : Int))) (hb : 0 < b) (hn : Nat.blt d n = true)
    (h : TL F P S w0 n ops Q rest ds ((d, .int k ((a % b : Nat) : Int)) :: σ) η) : TL F P S w0 n ops Q (⟨some d, .binOp .rem xt x y yt, ty, pos, af, none⟩ :: rest) ds σ η :=
  TL.pure hF (by intro c; simp) hn (fun c w hk _ => by
    have hb' : (Op.intDiv .rem k (a : Int) (b : Int)).run P w = .ok (.int k ((a % b : Nat) : Int)) w := by
      unfold Op.intDiv
      rw [if_neg (by omega)]
      simp only [Sem.run_pure]
      congr 2
    simp [execOp, hk.ev hx, hk.ev hy, eqGuard, binOp, hb']) h
end
end Go.Sl
