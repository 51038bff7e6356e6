/- Several texts in one. -/
import Derived.Test.YteimjjpigohnhaaGreatSb
import Derived.Test.YteimjjpigohnhaaGreatSd
/- Boxes: what changes add up to. -/
namespace Go.Proofs.YteimjjpigohnhaaGreat
open Go.Sl
/-! Words of 64 bits. -/
def wr (a : Int) : Int := (a + 9223372036854775808) % 18446744073709551616 - 9223372036854775808
theorem wr_range (a : Int) : -9223372036854775808 ≤ wr a ∧ wr a ≤ 9223372036854775807 := by unfold wr; omega
theorem wr_id {a : Int} (h1 : -9223372036854775808 ≤ a) (h2 : a ≤ 9223372036854775807) : wr a = a := by unfold wr; omega
theorem wr_wr (a : Int) : wr (wr a) = wr a := wr_id (wr_range a).1 (wr_range a).2
theorem wr_add (a b : Int) : wr (wr a + wr b) = wr (a + b) := by unfold wr; omega
theorem wr_sub (a b : Int) : wr (wr a - wr b) = wr (a - b) := by unfold wr; omega
theorem wr_addL (a b : Int) : wr (wr a + b) = wr (a + b) := by unfold wr; omega
theorem wr_addR (a b : Int) : wr (a + wr b) = wr (a + b) := by unfold wr; omega
theorem wr_subL (a b : Int) : wr (wr a - b) = wr (a - b) := by unfold wr; omega
theorem wr_subR (a b : Int) : wr (a - wr b) = wr (a - b) := by unfold wr; omega
theorem wrap_wr (a : Int) : IntKind.i64.wrap a = wr a := by
  rw [IntKind.wrap_i64]; unfold wr; omega
/-! Sums. -/
def sumN (n : Nat) (f : Nat → Int) : Int := match n with | 0 => 0 | k + 1 => sumN k f + f k
theorem sumN_congr {n : Nat} {f g : Nat → Int} (h : ∀ i, i < n → f i = g i) : sumN n f = sumN n g := by
  induction n with
  | zero => rfl
  | succ n ih => simp only [sumN]; rw [ih (fun i hi => h i (by omega)), h n (by omega)]
theorem sumN_add (n : Nat) (f g : Nat → Int) : sumN n (fun i => f i + g i) = sumN n f + sumN n g := by
  induction n with
  | zero => rfl
  | succ n ih => simp only [sumN]; omega
theorem sumN_zero (n : Nat) : sumN n (fun _ => 0) = 0 := by induction n with | zero => rfl | succ n ih => simp only [sumN]; omega
theorem sumN_wr (n : Nat) (f : Nat → Int) : wr (sumN n fun i => wr (f i)) = wr (sumN n f) := by
  induction n with
  | zero => rfl
  | succ n ih => simp only [sumN]; rw [← wr_add, ih, wr_wr, wr_add]
/-- A sum over so many blocks. -/
theorem sumN_mul (m R : Nat) (f : Nat → Int) : sumN (m * R) f = sumN m fun q => sumN R fun x => f (q * R + x) := by
  induction m with
  | zero => simp [sumN]
  | succ m ih =>
    have key : ∀ (a b : Nat), sumN (a + b) f = sumN a f + sumN b fun x => f (a + x) := by
      intro a b
      induction b with
      | zero => simp [sumN]
      | succ b ihb => rw [← Nat.add_assoc]; simp only [sumN]; rw [ihb]; omega
    rw [Nat.add_mul, Nat.one_mul, key, ih]
    simp only [sumN]
theorem sumN_swap (a b : Nat) (f : Nat → Nat → Int) : sumN a (fun i => sumN b (f i)) = sumN b fun j => sumN a fun i => f i j := by
  induction a with
  | zero => simp only [sumN]; exact (sumN_zero b).symm
  | succ a ih => simp only [sumN]; rw [ih, ← sumN_add]
/-- A sum from which the last ones fall out. -/
theorem sumN_le {n k : Nat} {f : Nat → Int} (hk : k ≤ n) (h : ∀ i, k ≤ i → i < n → f i = 0) : sumN n f = sumN k f := by
  induction n with
  | zero => have : k = 0 := by omega
            subst this; rfl
  | succ n ih =>
    by_cases e : k = n + 1
    · subst e; rfl
    · simp only [sumN]; rw [ih (by omega) (fun i h1 h2 => h i h1 (by omega)), h n (by omega) (by omega)]; omega
/-! The time of a cell. -/
def prodN : List Nat → Nat
  | [] => 1
  | m :: r => m * prodN r
def tmN : List Nat → Nat → List Nat
  | [], _ => []
  | m :: r, i => (i / prodN r) % m :: tmN r i
def leN : List Nat → List Nat → Bool
  | x :: a, y :: b => decide (x ≤ y) && leN a b
  | _, _ => true
theorem prodN_pos : ∀ {ns : List Nat}, (∀ m ∈ ns, 0 < m) → 0 < prodN ns
  | [], _ => by simp [prodN]
  | m :: r, h => Nat.mul_pos (h m List.mem_cons_self) (prodN_pos fun x hx => h x (List.mem_cons_of_mem _ hx))
theorem tmN_len : ∀ (ns : List Nat) (i : Nat), (tmN ns i).length = ns.length
  | [], _ => rfl
  | m :: r, i => by simp [tmN, tmN_len r i]
theorem leN_refl : ∀ a : List Nat, leN a a = true
  | [] => rfl
  | x :: a => by simp [leN, leN_refl a]
theorem div_block {q R x step m : Nat} (hs : 0 < step) (hR : ∃ c, R = c * (m * step)) : ((q * R + x) / step) % m = (x / step) % m := by
  obtain ⟨c, rfl⟩ := hR
  have e : q * (c * (m * step)) + x = x + step * (m * (q * c)) := by
    have : q * (c * (m * step)) = step * (m * (q * c)) := by
      rw [Nat.mul_comm m step, ← Nat.mul_assoc, ← Nat.mul_assoc, Nat.mul_comm (q * c) step, Nat.mul_assoc step, Nat.mul_comm (q * c) m]
    omega
  rw [e, Nat.add_mul_div_left _ _ hs, Nat.add_mul_mod_self_left]
theorem tmN_block : ∀ {ns : List Nat}, (∀ m ∈ ns, 0 < m) → ∀ {q R x : Nat}, (∃ c, R = c * prodN ns) → tmN ns (q * R + x) = tmN ns x
  | [], _, _, _, _, _ => rfl
  | m :: r, h, q, R, x, ⟨c, hR⟩ => by
    have hr := fun y hy => h y (List.mem_cons_of_mem _ hy)
    simp only [tmN]
    rw [div_block (prodN_pos hr) ⟨c, hR⟩, tmN_block hr ⟨c * m, by rw [hR, prodN, Nat.mul_assoc]⟩]
theorem tmN_split {m : Nat} {r : List Nat} (h : ∀ x ∈ r, 0 < x) {q x : Nat} (hq : q < m) (hx : x < prodN r) : tmN (m :: r) (q * prodN r + x) = q :: tmN r x := by
  have hp := prodN_pos h
  simp only [tmN]
  rw [tmN_block h ⟨1, by simp⟩, Nat.add_comm, Nat.mul_comm, Nat.add_mul_div_left _ _ hp, Nat.div_eq_of_lt hx, Nat.zero_add, Nat.mod_eq_of_lt hq]
theorem block_of {m R i : Nat} (hi : i < m * R) : ∃ q x, q < m ∧ x < R ∧ i = q * R + x := by
  have hR : 0 < R := Nat.pos_of_ne_zero (fun e => by rw [e] at hi; simp at hi)
  exact ⟨i / R, i % R, Nat.div_lt_of_lt_mul (by rw [Nat.mul_comm]; exact hi), Nat.mod_lt _ hR, by rw [Nat.mul_comm]; exact (Nat.div_add_mod i R).symm⟩
/-- An earlier time has an earlier cell. -/
theorem leN_lt : ∀ {ns : List Nat}, (∀ m ∈ ns, 0 < m) → ∀ {k i : Nat}, k < prodN ns → i < prodN ns → leN (tmN ns k) (tmN ns i) = true → k ≤ i
  | [], _, k, i, h1, h2, _ => by simp [prodN] at h1 h2; omega
  | m :: r, h, k, i, h1, h2, h3 => by
    have hr := fun y hy => h y (List.mem_cons_of_mem _ hy)
    obtain ⟨q, x, hq, hx, rfl⟩ := block_of h1
    obtain ⟨q', x', hq', hx', rfl⟩ := block_of h2
    rw [tmN_split hr hq hx, tmN_split hr hq' hx'] at h3
    simp only [leN, Bool.and_eq_true, decide_eq_true_eq] at h3
    rcases Nat.lt_or_eq_of_le h3.1 with h4 | h4
    · have h5 : (q + 1) * prodN r ≤ q' * prodN r := Nat.mul_le_mul_right _ h4
      rw [Nat.add_mul] at h5; omega
    · subst h4
      have := leN_lt hr hx hx' h3.2
      omega
/-! What changes add up to. -/
def boxS (ns : List Nat) (c : Nat → Int) (i : Nat) : Int := sumN (prodN ns) fun k => if leN (tmN ns k) (tmN ns i) then c k else 0
theorem boxS_congr {ns : List Nat} {c d : Nat → Int} {i : Nat} (h : ∀ k, k < prodN ns → c k = d k) : boxS ns c i = boxS ns d i := sumN_congr fun k hk => by rw [h k hk]
theorem boxS_split {m : Nat} {r : List Nat} (h : ∀ x ∈ r, 0 < x) {q x : Nat} (hq : q < m) (hx : x < prodN r) (c : Nat → Int) :
    boxS (m :: r) c (q * prodN r + x) = sumN (q + 1) fun p => boxS r (fun y => c (p * prodN r + y)) x := by
  unfold boxS
  rw [show prodN (m :: r) = m * prodN r from rfl, sumN_mul]
  have e : ∀ p, p < m → (sumN (prodN r) fun y => if leN (tmN (m :: r) (p * prodN r + y)) (tmN (m :: r) (q * prodN r + x)) then c (p * prodN r + y) else 0) = if p ≤ q then boxS r (fun y => c (p * prodN r + y)) x else 0 := by
    intro p hp
    by_cases hpq : p ≤ q
    · rw [if_pos hpq]
      refine sumN_congr fun y hy => ?_
      rw [tmN_split h hp hy, tmN_split h hq hx]
      simp [leN, hpq]
    · rw [if_neg hpq]
      refine Eq.trans ?_ (sumN_zero (prodN r))
      refine sumN_congr fun y hy => ?_
      rw [tmN_split h hp hy, tmN_split h hq hx]
      simp [leN, hpq]
  rw [sumN_congr e, sumN_le (k := q + 1) (by omega) (fun p h1 _ => by rw [if_neg (by omega)])]
  exact sumN_congr fun p hp => by rw [if_pos (by omega)]; rfl
/-- Along one side. -/
def preS (step m : Nat) (f : Nat → Int) (i : Nat) : Int := sumN ((i / step) % m + 1) fun j => f (i - j * step)
def difS (step m : Nat) (f : Nat → Int) (i : Nat) : Int := if 0 < (i / step) % m then f i - f (i - step) else f i
def sumsS : List Nat → (Nat → Int) → Nat → Int
  | [], c => c
  | m :: r, c => sumsS r (preS (prodN r) m c)
def difsS : List Nat → (Nat → Int) → Nat → Int
  | [], c => c
  | m :: r, c => difsS r (difS (prodN r) m c)
theorem mod_pred {a m : Nat} (h : 0 < a % m) (hm : 0 < m) : (a - 1) % m = a % m - 1 := by
  have h1 := Nat.div_add_mod a m
  have h2 := Nat.mod_lt a hm
  have e : a - 1 = m * (a / m) + (a % m - 1) := by omega
  rw [e, Nat.mul_add_mod, Nat.mod_eq_of_lt (by omega)]
theorem mod_mul_le {i step m j : Nat} (hj : j < (i / step) % m + 1) : j * step ≤ i := by
  have h1 : (i / step) % m ≤ i / step := Nat.mod_le _ _
  exact Nat.le_trans (Nat.mul_le_mul_right _ (by omega : j ≤ i / step)) (Nat.div_mul_le_self i step)
theorem back_div {step i : Nat} (hs : 0 < step) (h : 0 < i / step) : step ≤ i ∧ (i - step) / step = i / step - 1 := by
  have hle : step ≤ i := by
    rcases Nat.lt_or_ge i step with h1 | h1
    · rw [Nat.div_eq_of_lt h1] at h; omega
    · exact h1
  refine ⟨hle, ?_⟩
  have h2 : i - step + step * 1 = i := by omega
  have h3 := Nat.add_mul_div_left (i - step) 1 hs
  rw [h2] at h3; omega
theorem sumN_first (n : Nat) (f : Nat → Int) : sumN (n + 1) f = f 0 + sumN n fun i => f (i + 1) := by
  induction n with
  | zero => simp [sumN]
  | succ n ih =>
    have e : sumN (n + 1 + 1) f = sumN (n + 1) f + f (n + 1) := rfl
    rw [e, ih]; simp only [sumN]; omega
theorem sumN_rev (n : Nat) (f : Nat → Int) : sumN (n + 1) (fun i => f (n - i)) = sumN (n + 1) f := by
  induction n with
  | zero => rfl
  | succ n ih =>
    rw [sumN_first]
    have e : sumN (n + 1 + 1) f = sumN (n + 1) f + f (n + 1) := rfl
    rw [e, ← ih]
    have e2 : sumN (n + 1) (fun i => f (n + 1 - (i + 1))) = sumN (n + 1) fun i => f (n - i) := sumN_congr fun i _ => by congr 1; omega
    rw [e2]; simp only [Nat.sub_zero]; omega
theorem preS_back {step m i : Nat} (hs : 0 < step) (hm : 0 < m) (f : Nat → Int) (h : 0 < (i / step) % m) : step ≤ i ∧ preS step m f i = f i + preS step m f (i - step) := by
  have h0 : 0 < i / step := Nat.pos_of_ne_zero (fun e => by rw [e] at h; simp at h)
  obtain ⟨hle, e1⟩ := back_div hs h0
  have e2 : ((i - step) / step) % m = (i / step) % m - 1 := by rw [e1]; exact mod_pred h hm
  refine ⟨hle, ?_⟩
  unfold preS
  rw [e2, sumN_first, show (i / step) % m - 1 + 1 = (i / step) % m by omega]
  rw [Nat.zero_mul, Nat.sub_zero]
  congr 1
  refine sumN_congr fun j hj => ?_
  congr 1
  rw [Nat.add_mul]; omega
theorem preS_zero {step m i : Nat} (f : Nat → Int) (h : (i / step) % m = 0) : preS step m f i = f i := by
  unfold preS; rw [h]; simp [sumN]
/-! Each side in its block. -/
theorem preS_congr {step m x : Nat} {f g : Nat → Int} (h : ∀ y, y ≤ x → f y = g y) : preS step m f x = preS step m g x := sumN_congr fun j _ => h _ (by omega)
theorem difS_congr {step m x : Nat} {f g : Nat → Int} (h : ∀ y, y ≤ x → f y = g y) : difS step m f x = difS step m g x := by
  unfold difS; rw [h x (by omega), h (x - step) (by omega)]
theorem sumsS_congr : ∀ {ns : List Nat} {x : Nat} {f g : Nat → Int}, (∀ y, y ≤ x → f y = g y) → sumsS ns f x = sumsS ns g x
  | [], x, _, _, h => h x (Nat.le_refl x)
  | m :: r, x, _, _, h => sumsS_congr (ns := r) fun y hy => preS_congr fun z hz => h z (by omega)
theorem difsS_congr : ∀ {ns : List Nat} {x : Nat} {f g : Nat → Int}, (∀ y, y ≤ x → f y = g y) → difsS ns f x = difsS ns g x
  | [], x, _, _, h => h x (Nat.le_refl x)
  | m :: r, x, _, _, h => difsS_congr (ns := r) fun y hy => difS_congr fun z hz => h z (by omega)
theorem preS_block {q R x step m : Nat} (hs : 0 < step) (hR : ∃ c, R = c * (m * step)) (d : Nat → Int) : preS step m d (q * R + x) = preS step m (fun y => d (q * R + y)) x := by
  unfold preS
  rw [div_block hs hR]
  refine sumN_congr fun j hj => ?_
  have := mod_mul_le hj
  congr 1; omega
theorem difS_block {q R x step m : Nat} (hs : 0 < step) (hR : ∃ c, R = c * (m * step)) (d : Nat → Int) : difS step m d (q * R + x) = difS step m (fun y => d (q * R + y)) x := by
  unfold difS
  rw [div_block hs hR]
  split
  · rename_i h
    have h0 : 0 < x / step := Nat.pos_of_ne_zero (fun e => by rw [e] at h; simp at h)
    have := (back_div hs h0).1
    congr 2; omega
  · rfl
theorem sumsS_block : ∀ {ns : List Nat}, (∀ m ∈ ns, 0 < m) → ∀ {q R x : Nat}, (∃ c, R = c * prodN ns) → ∀ d : Nat → Int, sumsS ns d (q * R + x) = sumsS ns (fun y => d (q * R + y)) x
  | [], _, _, _, _, _, _ => rfl
  | m :: r, h, q, R, x, ⟨c, hR⟩, d => by
    have hr := fun y hy => h y (List.mem_cons_of_mem _ hy)
    simp only [sumsS]
    rw [sumsS_block hr ⟨c * m, by rw [hR, prodN, Nat.mul_assoc]⟩]
    exact sumsS_congr fun y _ => preS_block (prodN_pos hr) ⟨c, hR⟩ d
theorem difsS_block : ∀ {ns : List Nat}, (∀ m ∈ ns, 0 < m) → ∀ {q R x : Nat}, (∃ c, R = c * prodN ns) → ∀ d : Nat → Int, difsS ns d (q * R + x) = difsS ns (fun y => d (q * R + y)) x
  | [], _, _, _, _, _, _ => rfl
  | m :: r, h, q, R, x, ⟨c, hR⟩, d => by
    have hr := fun y hy => h y (List.mem_cons_of_mem _ hy)
    simp only [difsS]
    rw [difsS_block hr ⟨c * m, by rw [hR, prodN, Nat.mul_assoc]⟩]
    exact difsS_congr fun y _ => difS_block (prodN_pos hr) ⟨c, hR⟩ d
theorem sumsS_lin (Q : Nat) : ∀ (ns : List Nat) (F : Nat → Nat → Int) (x : Nat), sumsS ns (fun y => sumN Q fun p => F p y) x = sumN Q fun p => sumsS ns (F p) x
  | [], _, _ => rfl
  | m :: r, F, x => by
    simp only [sumsS]
    rw [← sumsS_lin Q r (fun p => preS (prodN r) m (F p)) x]
    refine sumsS_congr fun y _ => ?_
    unfold preS
    rw [sumN_swap]
/-- What the sides add up to is what all changes add up to. -/
theorem sums_box : ∀ {ns : List Nat}, (∀ m ∈ ns, 0 < m) → ∀ {i : Nat}, i < prodN ns → ∀ c : Nat → Int, sumsS ns c i = boxS ns c i
  | [], _, i, hi, c => by
    have : i = 0 := by simp [prodN] at hi; exact hi
    subst this
    simp [sumsS, boxS, prodN, sumN, tmN, leN]
  | m :: r, h, i, hi, c => by
    have hr := fun y hy => h y (List.mem_cons_of_mem _ hy)
    have hp := prodN_pos hr
    obtain ⟨q, x, hq, hx, rfl⟩ := block_of hi
    rw [boxS_split hr hq hx]
    simp only [sumsS]
    rw [sumsS_block hr ⟨1, by simp⟩]
    have e : sumsS r (fun y => preS (prodN r) m c (q * prodN r + y)) x = sumsS r (fun y => sumN (q + 1) fun p => c (p * prodN r + y)) x := by
      refine sumsS_congr fun y hy => ?_
      unfold preS
      have e1 : ((q * prodN r + y) / prodN r) % m = q := by
        rw [Nat.add_comm, Nat.mul_comm, Nat.add_mul_div_left _ _ hp, Nat.div_eq_of_lt (by omega), Nat.zero_add, Nat.mod_eq_of_lt hq]
      rw [e1, ← sumN_rev q (fun p => c (p * prodN r + y))]
      refine sumN_congr fun j hj => ?_
      have h1 : (q - j) * prodN r + j * prodN r = q * prodN r := by rw [← Nat.add_mul]; congr 1; omega
      congr 1; omega
    rw [e, sumsS_lin]
    exact sumN_congr fun p _ => sums_box hr hx _
/-- The changes of something add up to it. -/
theorem box_difs : ∀ {ns : List Nat}, (∀ m ∈ ns, 0 < m) → ∀ {i : Nat}, i < prodN ns → ∀ s : Nat → Int, boxS ns (difsS ns s) i = s i
  | [], _, i, hi, s => by
    have : i = 0 := by simp [prodN] at hi; exact hi
    subst this
    simp [difsS, boxS, prodN, sumN, tmN, leN]
  | m :: r, h, i, hi, s => by
    have hr := fun y hy => h y (List.mem_cons_of_mem _ hy)
    have hp := prodN_pos hr
    obtain ⟨q, x, hq, hx, rfl⟩ := block_of hi
    rw [boxS_split hr hq hx]
    have e : ∀ p, p < q + 1 → boxS r (fun y => difsS (m :: r) s (p * prodN r + y)) x = if p = 0 then s x else s (p * prodN r + x) - s ((p - 1) * prodN r + x) := by
      intro p hpq
      rw [boxS_congr (d := difsS r (fun z => difS (prodN r) m s (p * prodN r + z))) (fun y hy => by simp only [difsS]; exact difsS_block hr ⟨1, by simp⟩ _), box_difs hr hx]
      unfold difS
      have e1 : ((p * prodN r + x) / prodN r) % m = p := by
        rw [Nat.add_comm, Nat.mul_comm, Nat.add_mul_div_left _ _ hp, Nat.div_eq_of_lt hx, Nat.zero_add, Nat.mod_eq_of_lt (by omega)]
      rw [e1]
      by_cases h0 : p = 0
      · subst h0; simp
      · rw [if_pos (by omega), if_neg h0]
        have h1 : (p - 1) * prodN r + prodN r = p * prodN r := by
          have h2 : p = (p - 1) + 1 := by omega
          conv => rhs; rw [h2, Nat.add_mul, Nat.one_mul]
        congr 2; omega
    rw [sumN_congr e]
    clear e hi
    induction q with
    | zero => simp [sumN]
    | succ q ih =>
      have e2 : ∀ f : Nat → Int, sumN (q + 1 + 1) f = sumN (q + 1) f + f (q + 1) := fun f => rfl
      rw [e2, ih (by omega), if_neg (by omega), Nat.add_sub_cancel]; omega
theorem boxS_self {ns : List Nat} (h : ∀ m ∈ ns, 0 < m) {i : Nat} (hi : i < prodN ns) (c : Nat → Int) : boxS ns c i = sumN i (fun k => if leN (tmN ns k) (tmN ns i) then c k else 0) + c i := by
  unfold boxS
  rw [sumN_le (k := i + 1) (by omega) (fun k h1 h2 => ?_)]
  · simp only [sumN]; rw [if_pos (leN_refl _)]
  · rw [if_neg]
    intro h3; have := leN_lt h h2 hi h3; omega
theorem box_inj {ns : List Nat} (h : ∀ m ∈ ns, 0 < m) {c d : Nat → Int} (he : ∀ i, i < prodN ns → boxS ns c i = boxS ns d i) : ∀ i, i < prodN ns → c i = d i := by
  intro i
  induction i using Nat.strongRecOn with
  | _ i ih =>
    intro hi
    have h1 := he i hi
    rw [boxS_self h hi, boxS_self h hi] at h1
    have h2 : sumN i (fun k => if leN (tmN ns k) (tmN ns i) then c k else 0) = sumN i (fun k => if leN (tmN ns k) (tmN ns i) then d k else 0) := sumN_congr fun k hk => by rw [ih k hk (by omega)]
    omega
theorem difs_box {ns : List Nat} (h : ∀ m ∈ ns, 0 < m) (c : Nat → Int) : ∀ i, i < prodN ns → difsS ns (boxS ns c) i = c i := box_inj h fun i hi => by rw [box_difs h hi]
/-! Words. -/
theorem ite_wr {b : Prop} [Decidable b] (x : Int) : (if b then wr x else 0) = wr (if b then x else 0) := by split <;> rfl
theorem sumN_wr2 {n : Nat} {f g : Nat → Int} (h : ∀ i, i < n → wr (f i) = wr (g i)) : wr (sumN n f) = wr (sumN n g) := by
  rw [← sumN_wr n f, ← sumN_wr n g, sumN_congr h]
theorem boxS_wr {ns : List Nat} {f g : Nat → Int} (h : ∀ k, k < prodN ns → wr (f k) = wr (g k)) (i : Nat) : wr (boxS ns f i) = wr (boxS ns g i) := sumN_wr2 fun k hk => by
  rw [← ite_wr, ← ite_wr, h k hk]
theorem preS_wr {step m : Nat} {f g : Nat → Int} (h : ∀ k, wr (f k) = wr (g k)) (x : Nat) : wr (preS step m f x) = wr (preS step m g x) := sumN_wr2 fun _j _ => h _
theorem difS_wr {step m : Nat} {f g : Nat → Int} (h : ∀ k, wr (f k) = wr (g k)) (x : Nat) : wr (difS step m f x) = wr (difS step m g x) := by
  unfold difS
  split
  · rw [← wr_sub, h, h, wr_sub]
  · exact h x
theorem sumsS_wr : ∀ {ns : List Nat} {f g : Nat → Int}, (∀ k, wr (f k) = wr (g k)) → ∀ x, wr (sumsS ns f x) = wr (sumsS ns g x)
  | [], _, _, h, x => h x
  | _ :: r, _, _, h, x => sumsS_wr (ns := r) (fun k => preS_wr h k) x
theorem difsS_wr : ∀ {ns : List Nat} {f g : Nat → Int}, (∀ k, wr (f k) = wr (g k)) → ∀ x, wr (difsS ns f x) = wr (difsS ns g x)
  | [], _, _, h, x => h x
  | _ :: r, _, _, h, x => difsS_wr (ns := r) (fun k => difS_wr h k) x
theorem boxS_add (ns : List Nat) (f g : Nat → Int) (i : Nat) : boxS ns (fun k => f k + g k) i = boxS ns f i + boxS ns g i := by
  unfold boxS
  rw [← sumN_add]
  exact sumN_congr fun k _ => by split <;> simp
end Go.Proofs.YteimjjpigohnhaaGreat
/- Boxes, by the program. -/
namespace Go.Proofs.YteimjjpigohnhaaGreat
open Go.Sl
variable {S : Nat → Prop} {w0 : World} {η : Heap}
/-- The product of sizes. -/
def prodI (l : List Int) : Int := l.foldl (fun n m => n * m) 1
def szOk (m : Int) : Bool := decide (1 ≤ m) && decide (m ≤ 4096)
/-- How many cells a box has; -1: it is none. -/
def cellsS (l : List Int) : Int := if (1 ≤ l.length ∧ l.length ≤ 4) ∧ l.all szOk = true ∧ prodI l ≤ 4096 then prodI l else -1
theorem prodI_fold : ∀ (l : List Int) (n : Int), l.foldl (fun n m => n * m) n = n * prodI l
 | [], n => by simp [prodI]
 | x :: l, n => by
  unfold prodI
  rw [List.foldl_cons, List.foldl_cons, prodI_fold l (n * x), prodI_fold l (1 * x), Int.one_mul, Int.mul_assoc]
theorem prodI_cons (x : Int) (l : List Int) : prodI (x :: l) = x * prodI l := by unfold prodI; rw [List.foldl_cons, prodI_fold, Int.one_mul]; rfl
theorem prodI_take {l : List Int} {k : Nat} (h : k < l.length) : prodI (l.take (k + 1)) = prodI (l.take k) * l[k] := by
 unfold prodI; rw [List.take_succ_eq_append_getElem h, List.foldl_append]; rfl
theorem prodI_split (l : List Int) (k : Nat) : prodI l = prodI (l.take k) * prodI (l.drop k) := by
 conv => lhs; rw [← List.take_append_drop k l]
 unfold prodI
 rw [List.foldl_append, prodI_fold]; rfl
theorem prodI_pos {l : List Int} (h : l.all szOk = true) : 1 ≤ prodI l := by
 induction l with
 | nil => simp [prodI]
 | cons x l ih =>
  rw [List.all_cons, Bool.and_eq_true] at h
  have h1 := ih h.2
  have h2 : 1 ≤ x := by have := h.1; unfold szOk at this; rw [Bool.and_eq_true] at this; exact of_decide_eq_true this.1
  rw [prodI_cons]
  have := Int.mul_le_mul h2 h1 (by omega) (by omega); omega
theorem all_take {l : List Int} {p : Int → Bool} (h : l.all p = true) (k : Nat) : (l.take k).all p = true ∧ (l.drop k).all p = true := by
 rw [List.all_eq_true] at h
 exact ⟨List.all_eq_true.2 fun x hx => h x (List.mem_of_mem_take hx), List.all_eq_true.2 fun x hx => h x (List.mem_of_mem_drop hx)⟩
theorem prodI_take_le {l : List Int} (h : l.all szOk = true) (k : Nat) : prodI (l.take k) ≤ prodI l := by
 have h1 := prodI_pos (all_take h k).1
 have h2 := prodI_pos (all_take h k).2
 rw [prodI_split l k]
 have := Int.mul_le_mul (Int.le_refl (prodI (l.take k))) h2 (by omega) (by omega); omega
theorem szOk_iff {m : Int} : szOk m = true ↔ 1 ≤ m ∧ m ≤ 4096 := by simp [szOk]
theorem all_take_succ {l : List Int} {k : Nat} (hk : k < l.length) : (l.take (k + 1)).all szOk = ((l.take k).all szOk && szOk l[k]) := by rw [List.take_succ_eq_append_getElem hk, List.all_append]; simp
theorem mul_4096 {a b : Int} (ha : 1 ≤ a) (ha2 : a ≤ 5000) (hb : 1 ≤ b) (hb2 : b ≤ 4096) : 1 ≤ a * b ∧ a * b ≤ 20480000 := by
 have h1 := Int.mul_le_mul ha hb (by omega) (by omega)
 have h2 := Int.mul_le_mul ha2 hb2 (by omega) (by omega)
 omega
theorem cellsS_bad {l : List Int} (h : ¬ ((1 ≤ l.length ∧ l.length ≤ 4) ∧ l.all szOk = true ∧ prodI l ≤ 4096)) : cellsS l = -1 := by unfold cellsS; rw [if_neg h]
theorem cellsS_ok {l : List Int} (h : 0 ≤ cellsS l) : (1 ≤ l.length ∧ l.length ≤ 4) ∧ l.all szOk = true ∧ prodI l ≤ 4096 ∧ cellsS l = prodI l := by
 unfold cellsS at h ⊢
 split at h
 ·rename_i q; rw [if_pos q]; exact ⟨q.1, q.2.1, q.2.2, rfl⟩
 ·omega
set_option maxHeartbeats 2000000 in
theorem cells_fn {a : Option Addr} {l : List Int} {c : Nat} (hx : Row S w0 η a (ints l)) (hl : l.length < 2 ^ 63) :
  RtE Tryz.prog 109 [.slice a l.length c].toArray S w0 η (fun v η' => v = .int .i64 (cellsS l) ∧ 0 ≤ cellsS l ∧ η' = η) (fun ch η' => cellsS l = -1 ∧ ch = stopV 1 ∧ η' = η) := by
 have hF := open_wide
 refine RtE.of (fn := Tryz.f109) Tryz.func109 rfl rfl ?_
 refine T.seq ?_
 refine T.region ?_
 refine TL.assign hF rfl rfl ?_
 refine TL.nil ?_
 refine TQ.then_n ?_
 refine T.seq ?_
 refine T.region ?_
 refine TL.move hF rfl rfl ?_
 refine TL.len hF rfl rfl ?_
 refine TL.bin hF rfl rfl rfl rfl ?_
 refine TL.move hF rfl rfl ?_
 refine TL.gd (t := 9) rfl (fun g1_9 => ?_) (fun g1_9 => ?_)
 ·refine TL.on rfl rfl rfl (decide_eq_true g1_9) ?_
  refine TL.move hF rfl rfl ?_
  refine TL.on rfl rfl rfl (decide_eq_true g1_9) ?_
  refine TL.len hF rfl rfl ?_
  refine TL.on rfl rfl rfl (decide_eq_true g1_9) ?_
  refine TL.bin hF rfl rfl rfl rfl ?_
  refine TL.pickT hF rfl (decide_eq_true g1_9) rfl rfl ?_
  refine TL.callM hF (must_fn _ 1) rfl rfl (fun hA _ => ?_) (fun hA => ?_)
  ·skip
   refine TL.nil ?_
   refine TQ.then_n ?_
   refine T.seq ?_
   refine T.region ?_
   refine TL.assign hF rfl rfl ?_
   refine TL.nil ?_
   refine TQ.then_n ?_
   refine T.seq ?_
   refine T.seq ?_
   refine T.region ?_
   refine TL.move hF rfl rfl ?_
   refine TL.len hF rfl rfl ?_
   refine TL.move hF rfl rfl ?_
   refine TL.nil ?_
   refine TQ.then_n ?_
   refine T.block ?_
   have hlen : 1 ≤ l.length ∧ l.length ≤ 4 := by simp at hA; omega
   refine T.loop (ι := Nat) (fun k => k ≤ l.length ∧ (l.take k).all szOk = true ∧ prodI (l.take k) ≤ 4096) (fun k => [(3, .int .i64 (prodI (l.take k))), (15, .slice a l.length c), (16, .int .i64 (l.length : Int)), (17, .int .i64 (k : Int))]) (fun _ => η) (fun k => l.length - k) 0 ⟨Nat.zero_le _, by simp, by simp [prodI]⟩ ⟨rfl, rfl, rfl, rfl, trivial⟩ rfl ?_
   rintro k ⟨hk, hall, hpr⟩
   have hpp := prodI_pos hall
   refine T.seq ?_
   refine T.region ?_
   refine TL.bin hF rfl rfl rfl rfl ?_
   refine TL.nil ?_
   refine TQ.then_n ?_
   refine T.seq ?_
   first | refine T.cond_d rfl (fun ht18 => ?_) (fun ht18 => ?_) | refine T.cond _ rfl (fun ht18 => ?_) (fun ht18 => ?_)
   ·refine T.skip ?_
    refine TQ.then_n ?_
    refine T.seq ?_
    refine T.block ?_
    refine T.seq ?_
    refine T.region ?_
    refine TL.indexAddr hF rfl rfl (hx.adi (i := k) (by simp; omega)) (by omega) (by omega) rfl ?_
    refine TL.load hF rfl (hx.int (i := k) (by omega)) rfl ?_
    refine TL.assign hF rfl rfl ?_
    refine TL.nil ?_
    refine TQ.then_n ?_
    refine T.seq ?_
    refine T.region ?_
    refine TL.move hF rfl rfl ?_
    refine TL.bin hF rfl rfl rfl rfl ?_
    refine TL.move hF rfl rfl ?_
    refine TL.gd (t := 23) rfl (fun g6_23 => ?_) (fun g6_23 => ?_)
    ·refine TL.on rfl rfl rfl (decide_eq_true g6_23) ?_
     refine TL.move hF rfl rfl ?_
     refine TL.on rfl rfl rfl (decide_eq_true g6_23) ?_
     refine TL.bin hF rfl rfl rfl rfl ?_
     refine TL.pickT hF rfl (decide_eq_true g6_23) rfl rfl ?_
     refine TL.callM hF (must_fn _ 1) rfl rfl (fun hB _ => ?_) (fun hB => ?_)
     ·skip
      refine TL.nil ?_
      refine TQ.then_n ?_
      refine T.seq ?_
      refine T.region ?_
      refine TL.move hF rfl rfl ?_
      refine TL.move hF rfl rfl ?_
      have hkl : k < l.length := by omega
      have hB2 : l[k] ≤ 4096 := of_decide_eq_true hB
      have hmm := mul_4096 hpp (by omega) g6_23 hB2
      rw [← prodI_take hkl] at hmm
      refine TL.mul hF rfl rfl (by rw [← prodI_take hkl]; omega) (by rw [← prodI_take hkl]; omega) rfl ?_
      rw [← prodI_take hkl]
      refine TL.assign hF rfl rfl ?_
      refine TL.nil ?_
      refine TQ.then_n ?_
      refine T.region ?_
      refine TL.move hF rfl rfl ?_
      refine TL.bin hF rfl rfl rfl rfl ?_
      refine TL.callM hF (must_fn _ 1) rfl rfl (fun hC _ => ?_) (fun hC => ?_)
      ·skip
       refine TL.nil ?_
       refine TQ.block_n ?_
       refine TQ.then_n ?_
       refine T.region ?_
       refine TL.add hF rfl rfl (by omega) (by omega) rfl ?_
       refine TL.move hF rfl rfl ?_
       refine TL.nil ?_
       refine TQ.round (k + 1) ⟨by omega, by rw [all_take_succ hkl, hall, Bool.true_and]; exact szOk_iff.2 ⟨g6_23, hB2⟩, of_decide_eq_true hC⟩ (by omega) ⟨rfl, rfl, rfl, rfl, trivial⟩ rfl
      ·skip
       refine TQ.block_p ?_
       refine TQ.then_p ?_
       refine TQ.then_p ?_
       refine TQ.block_p ?_
       refine TQ.then_p ?_
       exact TQ.panicE ⟨cellsS_bad (fun q => by have h1 := prodI_take_le q.2.1 (k + 1); have h2 := of_decide_eq_false hC; omega), rfl, rfl⟩
     ·skip
      refine TQ.then_p ?_
      refine TQ.block_p ?_
      refine TQ.then_p ?_
      refine TQ.then_p ?_
      refine TQ.block_p ?_
      refine TQ.then_p ?_
      exact TQ.panicE ⟨cellsS_bad (fun q => by have h1 := List.all_eq_true.1 q.2.1 (l[k]'(by omega)) (List.getElem_mem _); have h2 := (szOk_iff.1 h1).2; have h3 := of_decide_eq_false hB; omega), rfl, rfl⟩
    ·refine TL.off hF rfl rfl rfl (decide_eq_false g6_23) rfl ?_
     refine TL.off hF rfl rfl rfl (decide_eq_false g6_23) rfl ?_
     refine TL.pickF hF rfl (decide_eq_false g6_23) rfl rfl ?_
     refine TL.callE hF (must_no 1) rfl rfl (fun _ _ h => h.elim) ?_
     rintro _ _ ⟨rfl, rfl⟩
     refine TQ.then_p ?_
     refine TQ.block_p ?_
     refine TQ.then_p ?_
     refine TQ.then_p ?_
     refine TQ.block_p ?_
     refine TQ.then_p ?_
     exact TQ.panicE ⟨cellsS_bad (fun q => by have h1 := List.all_eq_true.1 q.2.1 (l[k]'(by omega)) (List.getElem_mem _); have h2 := (szOk_iff.1 h1).1; omega), rfl, rfl⟩
   ·refine T.exit ?_
    refine TQ.then_x ?_
    refine TQ.then_x ?_
    refine TQ.block_x ?_
    refine TQ.then_n ?_
    refine T.seq ?_
    refine T.region ?_
    refine TL.move hF rfl rfl ?_
    refine TL.assign hF rfl rfl ?_
    refine TL.nil ?_
    refine TQ.then_n ?_
    refine T.ret ?_
    refine TQ.retsE [2] _ rfl rfl rfl ?_
    have e : l.take k = l := List.take_of_length_le (by omega)
    rw [e] at hall hpr hpp
    have e2 : cellsS l = prodI l := by unfold cellsS; rw [if_pos ⟨hlen, hall, hpr⟩]
    exact ⟨by show Value.int .i64 (prodI (l.take k)) = _; rw [e, e2], by rw [e2]; omega, rfl⟩
  ·skip
   refine TQ.then_p ?_
   exact TQ.panicE ⟨cellsS_bad (fun q => by have := of_decide_eq_false hA; omega), rfl, rfl⟩
 ·refine TL.off hF rfl rfl rfl (decide_eq_false g1_9) rfl ?_
  refine TL.off hF rfl rfl rfl (decide_eq_false g1_9) rfl ?_
  refine TL.off hF rfl rfl rfl (decide_eq_false g1_9) rfl ?_
  refine TL.pickF hF rfl (decide_eq_false g1_9) rfl rfl ?_
  refine TL.callE hF (must_no 1) rfl rfl (fun _ _ h => h.elim) ?_
  rintro _ _ ⟨rfl, rfl⟩
  refine TQ.then_p ?_
  exact TQ.panicE ⟨cellsS_bad (fun q => by omega), rfl, rfl⟩
set_option maxHeartbeats 2000000 in
theorem sum2_fn (x y : Int) :
  Rt Tryz.prog 63 [.int .i64 x, .int .i64 y].toArray S w0 η (fun v η' => v = .int .i64 (wr (x + y)) ∧ η' = η) := by
 have hF := open_wide
 refine Rt.of (fn := Tryz.f63) Tryz.func63 rfl rfl ?_
 refine T.seq ?_
 refine T.region ?_
 refine TL.assign hF rfl rfl ?_
 refine TL.nil ?_
 refine TQ.then_n ?_
 refine T.seq ?_
 refine T.region ?_
 refine TL.move hF rfl rfl ?_
 refine TL.move hF rfl rfl ?_
 refine TL.addK hF rfl rfl (r := wr (x + y)) (wrap_wr _) rfl ?_
 refine TL.assign hF rfl rfl ?_
 refine TL.nil ?_
 refine TQ.then_n ?_
 refine T.ret ?_
 refine TQ.rets [4] _ rfl rfl rfl ?_
 exact ⟨rfl, rfl⟩
set_option maxHeartbeats 2000000 in
theorem dif2_fn (x y : Int) :
  Rt Tryz.prog 65 [.int .i64 x, .int .i64 y].toArray S w0 η (fun v η' => v = .int .i64 (wr (x - y)) ∧ η' = η) := by
 have hF := open_wide
 refine Rt.of (fn := Tryz.f65) Tryz.func65 rfl rfl ?_
 refine T.seq ?_
 refine T.region ?_
 refine TL.assign hF rfl rfl ?_
 refine TL.nil ?_
 refine TQ.then_n ?_
 refine T.seq ?_
 refine T.region ?_
 refine TL.move hF rfl rfl ?_
 refine TL.move hF rfl rfl ?_
 refine TL.subK hF rfl rfl (r := wr (x - y)) (wrap_wr _) rfl ?_
 refine TL.assign hF rfl rfl ?_
 refine TL.nil ?_
 refine TQ.then_n ?_
 refine T.ret ?_
 refine TQ.rets [4] _ rfl rfl rfl ?_
 exact ⟨rfl, rfl⟩
theorem wrap_nat {a : Nat} (h : a ≤ 9223372036854775807) : IntKind.i64.wrap (a : Int) = (a : Int) := wrap_i64 (by omega) (by omega)
/-- Sizes as naturals. -/
def nsz (l : List Int) : List Nat := l.map Int.toNat
theorem nsz_pos {l : List Int} (h : l.all szOk = true) : ∀ m ∈ nsz l, 0 < m := by
 intro m hm
 obtain ⟨x, hx, rfl⟩ := List.mem_map.1 hm
 have := (szOk_iff.1 (List.all_eq_true.1 h x hx)).1; omega
theorem nsz_prod : ∀ {l : List Int}, l.all szOk = true → ((prodN (nsz l) : Nat) : Int) = prodI l
 | [], _ => by simp [nsz, prodN, prodI]
 | x :: l, h => by
  rw [List.all_cons, Bool.and_eq_true] at h
  have h1 := (szOk_iff.1 h.1).1
  have ih := nsz_prod h.2
  rw [prodI_cons, ← ih]
  simp only [nsz, List.map_cons, prodN]
  rw [Int.natCast_mul, Int.toNat_of_nonneg (by omega)]
theorem nsz_drop {l : List Int} {k : Nat} (hk : k < l.length) : nsz (l.drop k) = (l[k]).toNat :: nsz (l.drop (k + 1)) := by rw [drop_step hk]; rfl
/-- What the sides before one make of numbers. -/
def preK (step m k : Nat) (f : Nat → Int) (i : Nat) : Int := if i < k then wr (preS step m f i) else f i
def difK (n step m k : Nat) (f : Nat → Int) (i : Nat) : Int := if n - k ≤ i then wr (difS step m f i) else f i
theorem preK_set {step m k n : Nat} (hs : 0 < step) (hm : 0 < m) {f : Nat → Int} (_hf : ∀ i, f i = wr (f i)) (h : 0 < (k / step) % m) (hle : step ≤ k) : ∀ i, i < n → preK step m (k + 1) f i = if i = k then wr (preK step m k f k + preK step m k f (k - step)) else preK step m k f i := by
 intro i _
 unfold preK
 by_cases e : i = k
 ·subst e
  rw [if_pos (by omega), if_pos rfl, if_neg (by omega), if_pos (by omega), (preS_back hs hm f h).2, wr_addR]
 ·rw [if_neg e]
  by_cases h2 : i < k
  ·rw [if_pos (by omega), if_pos h2]
  ·rw [if_neg (by omega), if_neg h2]
theorem preK_skip {step m k n : Nat} {f : Nat → Int} (hf : ∀ i, f i = wr (f i)) (h : (k / step) % m = 0) : ∀ i, i < n → preK step m k f i = preK step m (k + 1) f i := by
 intro i _
 unfold preK
 by_cases e : i = k
 ·subst e
  rw [if_neg (by omega), if_pos (by omega), preS_zero f h]; exact hf i
 ·by_cases h2 : i < k
  ·rw [if_pos (by omega), if_pos (by omega)]
  ·rw [if_neg (by omega), if_neg (by omega)]
theorem difK_set {step m k n : Nat} {f : Nat → Int} (hk : k < n) (hs : 0 < step) (h : 0 < ((n - 1 - k) / step) % m) (_hle : step ≤ n - 1 - k) : ∀ i, i < n → difK n step m (k + 1) f i = if i = n - 1 - k then wr (difK n step m k f (n - 1 - k) - difK n step m k f (n - 1 - k - step)) else difK n step m k f i := by
 intro i _
 unfold difK
 by_cases e : i = n - 1 - k
 ·subst e
  rw [if_pos (by omega), if_pos rfl, if_neg (by omega), if_neg (by omega)]
  unfold difS; rw [if_pos h]
 ·rw [if_neg e]
  by_cases h2 : n - k ≤ i
  ·rw [if_pos (by omega), if_pos h2]
  ·rw [if_neg (by omega), if_neg h2]
theorem difK_skip {step m k n : Nat} {f : Nat → Int} (hk : k < n) (hf : ∀ i, f i = wr (f i)) (h : ((n - 1 - k) / step) % m = 0) : ∀ i, i < n → difK n step m k f i = difK n step m (k + 1) f i := by
 intro i _
 unfold difK
 by_cases e : i = n - 1 - k
 ·subst e
  rw [if_neg (by omega), if_pos (by omega)]
  unfold difS; rw [if_neg (by omega)]; exact hf _
 ·by_cases h2 : n - k ≤ i
  ·rw [if_pos (by omega), if_pos (by omega)]
  ·rw [if_neg (by omega), if_neg (by omega)]
def getI (l : List Int) (i : Nat) : Int := l.getD i 0
/-- The error of a box and its numbers. -/
def linesE (sizes l : List Int) : Int := if cellsS sizes < 0 then 1 else if (l.length : Int) = cellsS sizes then 0 else 2
theorem prod_div {m : Nat} {r : List Nat} (hm : 0 < m) : prodN (m :: r) / m = prodN r := by show m * prodN r / m = _; rw [Nat.mul_comm, Nat.mul_div_cancel _ hm]
theorem prodN_drop_le {l : List Int} (h : l.all szOk = true) (k : Nat) : prodN (nsz (l.drop k)) ≤ prodN (nsz l) := by
 have h1 := nsz_prod h
 have h2 := nsz_prod (all_take h k).2
 have h3 := prodI_split l k
 have h4 := prodI_pos (all_take h k).1
 have h5 := prodI_pos (all_take h k).2
 have h6 := Int.mul_le_mul h4 (Int.le_refl (prodI (l.drop k))) (by omega) (by omega)
 omega
set_option maxHeartbeats 2000000 in
theorem lines_sum {a b : Option Addr} {sizes l : List Int} {c d : Nat} (hx : Row S w0 η a (ints sizes)) (hy : Row S w0 η b (ints l)) (hl : sizes.length < 2 ^ 63) (hl2 : l.length < 2 ^ 63) (hw : ∀ x ∈ l, -9223372036854775808 ≤ x ∧ x ≤ 9223372036854775807) :
  RtE Tryz.prog 62 [.slice a sizes.length c, .slice b l.length d, .bool false, .func (.func 63) #[] #[]].toArray S w0 η (fun v η' => linesE sizes l = 0 ∧ ∃ g, v = .slice (some ⟨g, 0, none⟩) l.length l.length ∧ η' = iseg g l.length (fun i => wr (sumsS (nsz sizes) (getI l) i)) :: η) (fun ch η' => (linesE sizes l = 1 ∨ linesE sizes l = 2) ∧ ch = stopV (linesE sizes l) ∧ η' = η) := by
 have hF := open_wide
 refine RtE.of (fn := Tryz.f62) Tryz.func62 rfl rfl ?_
 refine T.seq ?_
 refine T.region ?_
 refine TL.assign hF rfl rfl ?_
 refine TL.nil ?_
 refine TQ.then_n ?_
 refine T.seq ?_
 refine T.region ?_
 refine TL.move hF rfl rfl ?_
 refine TL.callE hF (cells_fn hx hl) rfl rfl ?_ ?_
 ·rintro _ η2 ⟨rfl, hc0, hη⟩
  have hη := hη.symm
  subst hη
  obtain ⟨hlen, hall, hpr, hcp⟩ := cellsS_ok hc0
  refine TL.assign hF rfl rfl ?_
  refine TL.nil ?_
  refine TQ.then_n ?_
  refine T.seq ?_
  refine T.region ?_
  refine TL.move hF rfl rfl ?_
  refine TL.len hF rfl rfl ?_
  refine TL.move hF rfl rfl ?_
  refine TL.bin hF rfl rfl rfl rfl ?_
  refine TL.callM hF (must_fn _ 2) rfl rfl (fun hA _ => ?_) (fun hA => ?_)
  ·skip
   refine TL.nil ?_
   refine TQ.then_n ?_
   refine T.seq ?_
   refine T.region ?_
   refine TL.move hF rfl rfl ?_
   have hn : cellsS sizes = (l.length : Int) := by simp at hA; omega
   have hnp : prodN (nsz sizes) = l.length := by have := nsz_prod hall; omega
   rw [hn] at hcp ⊢
   refine TL.makeSlice hF rfl rfl rfl (by omega) (by omega) rfl (fun b23 => ?_)
   refine TL.assign hF rfl rfl ?_
   refine TL.nil ?_
   refine TQ.then_n ?_
   refine T.seq ?_
   refine T.region ?_
   refine TL.move hF rfl rfl ?_
   refine TL.move hF rfl rfl ?_
   refine TL.copy hF 0 (cs := List.replicate l.length (.int .i64 0)) (e' := 3) (k := l.length) (ints l) (ints l) rfl rfl rfl (by simp) (hy.up upc) (by simp) (ints1 _) (by simp) (by simp) rfl ?_
   rw [ints_intC l]
   refine TL.nil ?_
   refine TQ.then_n ?_
   refine T.seq ?_
   refine T.region ?_
   refine TL.move hF rfl rfl ?_
   refine TL.assign hF rfl rfl ?_
   refine TL.nil ?_
   refine TQ.then_n ?_
   refine T.seq ?_
   refine T.seq ?_
   refine T.region ?_
   refine TL.move hF rfl rfl ?_
   refine TL.len hF rfl rfl ?_
   refine TL.move hF rfl rfl ?_
   refine TL.nil ?_
   refine TQ.then_n ?_
   refine T.block ?_
   refine T.loop (ι := Nat × (Nat → Int)) (fun i => i.1 ≤ sizes.length ∧ (∀ x, i.2 x = wr (i.2 x)) ∧ ∀ x, wr (sumsS (nsz (sizes.drop i.1)) i.2 x) = wr (sumsS (nsz sizes) (getI l) x)) (fun i => [(2, .bool false), (3, .func (.func 63) #[] #[]), (9, .int .i64 (l.length : Int)), (10, .slice (some ⟨b23, 0, none⟩) l.length l.length), (11, .int .i64 ((prodN (nsz (sizes.drop i.1)) : Nat) : Int)), (28, .slice a sizes.length c), (29, .int .i64 (sizes.length : Int)), (30, .int .i64 (i.1 : Int))]) (fun i => iseg b23 l.length i.2 :: η) (fun i => sizes.length - i.1) (0, fun x => wr (getI l x)) ⟨Nat.zero_le _, fun x => (wr_wr _).symm, fun x => sumsS_wr (fun k => wr_wr _) x⟩ ⟨rfl, rfl, rfl, rfl, by show _ = some (Value.int .i64 ((prodN (nsz sizes) : Nat) : Int)); rw [hnp]; rfl, rfl, rfl, rfl, trivial⟩ (iseg_congr fun i hi => ?_) ?_
   ·show l.getD i 0 = wr (getI l i)
    unfold getI
    rw [List.getD_eq_getElem?_getD, List.getElem?_eq_getElem hi]
    exact (wr_id (hw _ (List.getElem_mem hi)).1 (hw _ (List.getElem_mem hi)).2).symm
   rintro ⟨k, F⟩ ⟨hk, hF1, hF2⟩
   dsimp only at hk hF1 hF2
   refine T.seq ?_
   refine T.region ?_
   refine TL.bin hF rfl rfl rfl rfl ?_
   refine TL.nil ?_
   refine TQ.then_n ?_
   refine T.seq ?_
   first | refine T.cond_d rfl (fun ht31 => ?_) (fun ht31 => ?_) | refine T.cond _ rfl (fun ht31 => ?_) (fun ht31 => ?_)
   ·refine T.skip ?_
    refine TQ.then_n ?_
    refine T.seq ?_
    refine T.block ?_
    refine T.seq ?_
    refine T.region ?_
    refine TL.indexAddr hF rfl rfl (hx.adi (i := k) (by simp; omega)) (by omega) (by omega) rfl ?_
    have hks : k < sizes.length := by omega
    have hsk := szOk_iff.1 (List.all_eq_true.1 hall sizes[k] (List.getElem_mem hks))
    have hdr := nsz_drop hks
    have hpl := prodN_drop_le hall k
    have hpl2 := prodN_drop_le hall (k + 1)
    have hps := prodN_pos (nsz_pos (all_take hall (k + 1)).2)
    generalize hmk : (sizes[k]).toNat = m at hdr
    have hm0 : 0 < m := by omega
    generalize hst : prodN (nsz (sizes.drop (k + 1))) = step at hpl2 hps
    refine TL.load hF rfl (v := .int .i64 (m : Int)) (by have h := (hx.up upc).int (i := k) hks (η := iseg b23 l.length F :: η); rw [show (m : Int) = sizes[k] by omega]; exact h) rfl ?_
    refine TL.assign hF rfl rfl ?_
    refine TL.nil ?_
    refine TQ.then_n ?_
    refine T.seq ?_
    refine T.region ?_
    refine TL.move hF rfl rfl ?_
    refine TL.move hF rfl rfl ?_
    refine TL.quoN hF rfl rfl hm0 (wrap_nat (by rw [hdr, prod_div hm0, hst]; omega)) rfl ?_
    rw [hdr, prod_div hm0, hst]
    refine TL.assign hF rfl rfl ?_
    refine TL.nil ?_
    refine TQ.then_n ?_
    refine T.seq ?_
    refine T.region ?_
    refine TL.move hF rfl rfl ?_
    refine TL.move hF rfl rfl ?_
    refine TL.nil ?_
    refine TQ.then_n ?_
    refine T.block ?_
    refine T.loop (ι := Nat) (fun k2 => k2 ≤ l.length) (fun k2 => [(2, .bool false), (3, .func (.func 63) #[] #[]), (9, .int .i64 (l.length : Int)), (10, .slice (some ⟨b23, 0, none⟩) l.length l.length), (11, .int .i64 (step : Int)), (13, .int .i64 (m : Int)), (28, .slice a sizes.length c), (29, .int .i64 (sizes.length : Int)), (30, .int .i64 (k : Int)), (37, .int .i64 (l.length : Int)), (38, .int .i64 (k2 : Int))]) (fun k2 => iseg b23 l.length (preK step m k2 F) :: η) (fun k2 => l.length - k2) 0 (Nat.zero_le _) ⟨rfl, rfl, rfl, rfl, rfl, rfl, rfl, rfl, rfl, rfl, rfl, trivial⟩ (iseg_congr fun i hi => by unfold preK; rw [if_neg (by omega)]) ?_
    intro k2 hk2
    refine T.seq ?_
    refine T.region ?_
    refine TL.bin hF rfl rfl rfl rfl ?_
    refine TL.nil ?_
    refine TQ.then_n ?_
    refine T.seq ?_
    first | refine T.cond_d rfl (fun ht39 => ?_) (fun ht39 => ?_) | refine T.cond _ rfl (fun ht39 => ?_) (fun ht39 => ?_)
    ·refine T.skip ?_
     refine TQ.then_n ?_
     refine T.seq ?_
     refine T.block ?_
     refine T.seq ?_
     refine T.region ?_
     refine TL.move hF rfl rfl ?_
     refine TL.assign hF rfl rfl ?_
     refine TL.nil ?_
     refine TQ.then_n ?_
     refine T.seq ?_
     refine T.seq ?_
     refine T.region ?_
     refine TL.move hF rfl rfl ?_
     refine TL.nil ?_
     refine TQ.then_n ?_
     refine T.cond_f rfl rfl ?_
     refine T.skip ?_
     refine TQ.then_n ?_
     refine T.seq ?_
     refine T.region ?_
     refine TL.move hF rfl rfl ?_
     refine TL.move hF rfl rfl ?_
     have hkl : k2 < l.length := by omega
     refine TL.quoN hF rfl rfl hps (wrap_nat (Nat.le_trans (Nat.div_le_self k2 step) (by omega))) rfl ?_
     refine TL.move hF rfl rfl ?_
     refine TL.remN hF rfl rfl hm0 rfl ?_
     refine TL.bin hF rfl rfl rfl rfl ?_
     refine TL.nil ?_
     refine TQ.then_n ?_
     first | refine T.cond_d rfl (fun ht51 => ?_) (fun ht51 => ?_) | refine T.cond _ rfl (fun ht51 => ?_) (fun ht51 => ?_)
     ·have hgt : 0 < (k2 / step) % m := by omega
      have hgd : 0 < k2 / step := Nat.pos_of_ne_zero (fun e => by rw [e] at hgt; simp at hgt)
      have hbk := (back_div hps hgd).1
      refine T.draw ?_
      refine DR.stepV [_] rfl [(10, _, none)] rfl rfl ⟨⟨rfl, by kernel_rfl⟩, trivial⟩ (fun ext => TL.move hF rfl rfl TL.fin) ?_
      refine DR.stepV [_, _] rfl [(14, _, none)] rfl rfl ⟨⟨rfl, by kernel_rfl⟩, trivial⟩ (fun ext => TL.move hF rfl rfl TL.fin) ?_
      refine DR.stepV [_, _, _] rfl [(3, _, none)] rfl rfl ⟨⟨rfl, by kernel_rfl⟩, trivial⟩ (fun ext => TL.move hF rfl rfl TL.fin) ?_
      refine DR.stepV [_, _, _, _] rfl [(10, _, none)] rfl rfl ⟨⟨rfl, by kernel_rfl⟩, trivial⟩ (fun ext => TL.move hF rfl rfl TL.fin) ?_
      refine DR.stepV [_, _, _, _, _] rfl [(14, _, none)] rfl rfl ⟨⟨rfl, by kernel_rfl⟩, trivial⟩ (fun ext => TL.move hF rfl rfl TL.fin) ?_
      refine DR.stepV [_, _, _, _, _, _] rfl [(55, _, some 3), (56, _, some 4)] rfl rfl ⟨⟨rfl, rfl, rfl⟩, ⟨rfl, rfl, rfl⟩, trivial⟩ (fun ext => TL.indexAddr hF rfl rfl ⟨_, rfl, rfl⟩ (by omega) (by omega) rfl TL.fin) ?_
      refine DR.stepV [_, _, _, _, _, _, _] rfl [(57, _, some 5)] rfl rfl ⟨⟨rfl, rfl, rfl⟩, trivial⟩ (fun ext => TL.load hF rfl (iseg_at (f := preK step m k2 F) (n := l.length) (b := b23) (j := k2) (by simp) (by omega)) rfl TL.fin) ?_
      refine DR.stepV [_, _, _, _, _, _, _, _] rfl [(10, _, none)] rfl rfl ⟨⟨rfl, by kernel_rfl⟩, trivial⟩ (fun ext => TL.move hF rfl rfl TL.fin) ?_
      refine DR.stepV [_, _, _, _, _, _, _, _, _] rfl [(14, _, none)] rfl rfl ⟨⟨rfl, by kernel_rfl⟩, trivial⟩ (fun ext => TL.move hF rfl rfl TL.fin) ?_
      refine DR.stepV [_, _, _, _, _, _, _, _, _, _] rfl [(11, _, none)] rfl rfl ⟨⟨rfl, by kernel_rfl⟩, trivial⟩ (fun ext => TL.move hF rfl rfl TL.fin) ?_
      refine DR.stepV [_, _, _, _, _, _, _, _, _, _, _] rfl [(60, _, some 8), (61, _, some 9)] rfl rfl ⟨⟨rfl, rfl, rfl⟩, ⟨rfl, rfl, rfl⟩, trivial⟩ (fun ext => TL.sub hF rfl rfl (by omega) (by omega) rfl TL.fin) ?_
      refine DR.stepV [_, _, _, _, _, _, _, _, _, _, _, _] rfl [(59, _, some 7), (62, _, some 10)] rfl rfl ⟨⟨rfl, rfl, rfl⟩, ⟨rfl, rfl, rfl⟩, trivial⟩ (fun ext => TL.indexAddr hF rfl rfl ⟨_, rfl, rfl⟩ (by omega) (by omega) rfl TL.fin) ?_
      refine DR.stepV [_, _, _, _, _, _, _, _, _, _, _, _, _] rfl [(63, _, some 11)] rfl rfl ⟨⟨rfl, rfl, rfl⟩, trivial⟩ (fun ext => TL.load hF rfl (by have h := iseg_at (S := S) (w0 := w0) (η := iseg b23 l.length (preK step m k2 F) :: η) (f := preK step m k2 F) (n := l.length) (b := b23) (j := k2 - step) (by simp) (by omega); rw [show (((k2 : Nat) : Int) - (step : Int)).toNat = k2 - step by omega]; exact h) rfl TL.fin) ?_
      refine DR.stepV [_, _, _, _, _, _, _, _, _, _, _, _, _, _] rfl [(54, _, some 2), (58, _, some 6), (64, _, some 12)] rfl rfl ⟨⟨rfl, rfl, rfl⟩, ⟨rfl, rfl, rfl⟩, ⟨rfl, rfl, rfl⟩, trivial⟩ (fun ext => TL.callV hF (sum2_fn _ _) rfl rfl TL.fin) ?_
      refine DR.done [(65, _), (64, _), (63, _), (62, _), (61, _), (60, _), (59, _), (58, _), (57, _), (56, _), (55, _), (54, _), (53, _), (52, _)] [_, _] mixed (by kernel_rfl) (by kernel_rfl) (by kernel_rfl) rfl rfl ?_
      refine TL.indexAddr hF rfl rfl ⟨_, rfl, rfl⟩ (by omega) (by omega) rfl ?_
      refine TL.storeI hF 0 rfl rfl rfl rfl (by simp [intC_len]; omega) ?_
      refine TL.nil ?_
      refine TQ.block_n ?_
      refine TQ.then_n ?_
      refine T.region ?_
      refine TL.add hF rfl rfl (by omega) (by omega) rfl ?_
      refine TL.move hF rfl rfl ?_
      refine TL.nil ?_
      refine TQ.round (k2 + 1) (by omega) (by omega) ⟨rfl, rfl, rfl, rfl, rfl, rfl, rfl, rfl, rfl, rfl, rfl, trivial⟩ (iseg_set (j := k2) (by simp) ?_)
      exact preK_set hps hm0 hF1 hgt hbk
     ·refine T.skip ?_
      refine TQ.block_n ?_
      refine TQ.then_n ?_
      refine T.region ?_
      refine TL.add hF rfl rfl (by omega) (by omega) rfl ?_
      refine TL.move hF rfl rfl ?_
      refine TL.nil ?_
      refine TQ.round (k2 + 1) (by omega) (by omega) ⟨rfl, rfl, rfl, rfl, rfl, rfl, rfl, rfl, rfl, rfl, rfl, trivial⟩ (iseg_congr ?_)
      exact preK_skip hF1 (by omega)
    ·refine T.exit ?_
     refine TQ.then_x ?_
     refine TQ.then_x ?_
     refine TQ.block_x ?_
     refine TQ.block_n ?_
     refine TQ.then_n ?_
     refine T.region ?_
     refine TL.add hF rfl rfl (by omega) (by omega) rfl ?_
     refine TL.move hF rfl rfl ?_
     refine TL.nil ?_
     have hkn : k2 = l.length := by omega
     refine TQ.round (k + 1, fun x => wr (preS step m F x)) ⟨by dsimp only; omega, fun x => (wr_wr _).symm, fun x => ?_⟩ (by dsimp only; omega) ⟨rfl, rfl, rfl, rfl, by dsimp only; rw [hst]; rfl, rfl, rfl, rfl, trivial⟩ (iseg_congr fun i hi => by unfold preK; rw [if_pos (by omega)])
     rw [← hF2 x, hdr]
     simp only [sumsS]
     rw [hst]
     exact sumsS_wr (fun y => wr_wr _) x
   ·refine T.exit ?_
    refine TQ.then_x ?_
    refine TQ.then_x ?_
    refine TQ.block_x ?_
    refine TQ.then_n ?_
    refine T.seq ?_
    refine T.region ?_
    refine TL.move hF rfl rfl ?_
    refine TL.assign hF rfl rfl ?_
    refine TL.nil ?_
    refine TQ.then_n ?_
    refine T.ret ?_
    refine TQ.retsE [8] _ rfl rfl rfl ?_
    have e : linesE sizes l = 0 := by unfold linesE; rw [if_neg (by omega), if_pos hn.symm]
    refine ⟨e, b23, rfl, ?_⟩
    have e2 : sizes.drop k = [] := List.drop_of_length_le (by omega)
    rw [e2] at hF2
    exact iseg_congr fun i hi => (hF1 i).trans (hF2 i)
  ·skip
   refine TQ.then_p ?_
   have e : linesE sizes l = 2 := by unfold linesE; rw [if_neg (by omega), if_neg (by simp at hA; omega)]
   exact TQ.panicE ⟨.inr e, by rw [e], rfl⟩
 ·rintro _ η2 ⟨hc0, rfl, hη⟩
  have hη := hη.symm
  subst hη
  refine TQ.then_p ?_
  have e : linesE sizes l = 1 := by unfold linesE; rw [if_pos (by omega)]
  exact TQ.panicE ⟨.inl e, by rw [e], rfl⟩
set_option maxHeartbeats 2000000 in
theorem lines_dif {a b : Option Addr} {sizes l : List Int} {c d : Nat} (hx : Row S w0 η a (ints sizes)) (hy : Row S w0 η b (ints l)) (hl : sizes.length < 2 ^ 63) (hl2 : l.length < 2 ^ 63) (hw : ∀ x ∈ l, -9223372036854775808 ≤ x ∧ x ≤ 9223372036854775807) :
  RtE Tryz.prog 62 [.slice a sizes.length c, .slice b l.length d, .bool true, .func (.func 65) #[] #[]].toArray S w0 η (fun v η' => linesE sizes l = 0 ∧ ∃ g, v = .slice (some ⟨g, 0, none⟩) l.length l.length ∧ η' = iseg g l.length (fun i => wr (difsS (nsz sizes) (getI l) i)) :: η) (fun ch η' => (linesE sizes l = 1 ∨ linesE sizes l = 2) ∧ ch = stopV (linesE sizes l) ∧ η' = η) := by
 have hF := open_wide
 refine RtE.of (fn := Tryz.f62) Tryz.func62 rfl rfl ?_
 refine T.seq ?_
 refine T.region ?_
 refine TL.assign hF rfl rfl ?_
 refine TL.nil ?_
 refine TQ.then_n ?_
 refine T.seq ?_
 refine T.region ?_
 refine TL.move hF rfl rfl ?_
 refine TL.callE hF (cells_fn hx hl) rfl rfl ?_ ?_
 ·rintro _ η2 ⟨rfl, hc0, hη⟩
  have hη := hη.symm
  subst hη
  obtain ⟨hlen, hall, hpr, hcp⟩ := cellsS_ok hc0
  refine TL.assign hF rfl rfl ?_
  refine TL.nil ?_
  refine TQ.then_n ?_
  refine T.seq ?_
  refine T.region ?_
  refine TL.move hF rfl rfl ?_
  refine TL.len hF rfl rfl ?_
  refine TL.move hF rfl rfl ?_
  refine TL.bin hF rfl rfl rfl rfl ?_
  refine TL.callM hF (must_fn _ 2) rfl rfl (fun hA _ => ?_) (fun hA => ?_)
  ·skip
   refine TL.nil ?_
   refine TQ.then_n ?_
   refine T.seq ?_
   refine T.region ?_
   refine TL.move hF rfl rfl ?_
   have hn : cellsS sizes = (l.length : Int) := by simp at hA; omega
   have hnp : prodN (nsz sizes) = l.length := by have := nsz_prod hall; omega
   rw [hn] at hcp ⊢
   refine TL.makeSlice hF rfl rfl rfl (by omega) (by omega) rfl (fun b23 => ?_)
   refine TL.assign hF rfl rfl ?_
   refine TL.nil ?_
   refine TQ.then_n ?_
   refine T.seq ?_
   refine T.region ?_
   refine TL.move hF rfl rfl ?_
   refine TL.move hF rfl rfl ?_
   refine TL.copy hF 0 (cs := List.replicate l.length (.int .i64 0)) (e' := 3) (k := l.length) (ints l) (ints l) rfl rfl rfl (by simp) (hy.up upc) (by simp) (ints1 _) (by simp) (by simp) rfl ?_
   rw [ints_intC l]
   refine TL.nil ?_
   refine TQ.then_n ?_
   refine T.seq ?_
   refine T.region ?_
   refine TL.move hF rfl rfl ?_
   refine TL.assign hF rfl rfl ?_
   refine TL.nil ?_
   refine TQ.then_n ?_
   refine T.seq ?_
   refine T.seq ?_
   refine T.region ?_
   refine TL.move hF rfl rfl ?_
   refine TL.len hF rfl rfl ?_
   refine TL.move hF rfl rfl ?_
   refine TL.nil ?_
   refine TQ.then_n ?_
   refine T.block ?_
   refine T.loop (ι := Nat × (Nat → Int)) (fun i => i.1 ≤ sizes.length ∧ (∀ x, i.2 x = wr (i.2 x)) ∧ ∀ x, wr (difsS (nsz (sizes.drop i.1)) i.2 x) = wr (difsS (nsz sizes) (getI l) x)) (fun i => [(2, .bool true), (3, .func (.func 65) #[] #[]), (9, .int .i64 (l.length : Int)), (10, .slice (some ⟨b23, 0, none⟩) l.length l.length), (11, .int .i64 ((prodN (nsz (sizes.drop i.1)) : Nat) : Int)), (28, .slice a sizes.length c), (29, .int .i64 (sizes.length : Int)), (30, .int .i64 (i.1 : Int))]) (fun i => iseg b23 l.length i.2 :: η) (fun i => sizes.length - i.1) (0, fun x => wr (getI l x)) ⟨Nat.zero_le _, fun x => (wr_wr _).symm, fun x => difsS_wr (fun k => wr_wr _) x⟩ ⟨rfl, rfl, rfl, rfl, by show _ = some (Value.int .i64 ((prodN (nsz sizes) : Nat) : Int)); rw [hnp]; rfl, rfl, rfl, rfl, trivial⟩ (iseg_congr fun i hi => ?_) ?_
   ·show l.getD i 0 = wr (getI l i)
    unfold getI
    rw [List.getD_eq_getElem?_getD, List.getElem?_eq_getElem hi]
    exact (wr_id (hw _ (List.getElem_mem hi)).1 (hw _ (List.getElem_mem hi)).2).symm
   rintro ⟨k, F⟩ ⟨hk, hF1, hF2⟩
   dsimp only at hk hF1 hF2
   refine T.seq ?_
   refine T.region ?_
   refine TL.bin hF rfl rfl rfl rfl ?_
   refine TL.nil ?_
   refine TQ.then_n ?_
   refine T.seq ?_
   first | refine T.cond_d rfl (fun ht31 => ?_) (fun ht31 => ?_) | refine T.cond _ rfl (fun ht31 => ?_) (fun ht31 => ?_)
   ·refine T.skip ?_
    refine TQ.then_n ?_
    refine T.seq ?_
    refine T.block ?_
    refine T.seq ?_
    refine T.region ?_
    refine TL.indexAddr hF rfl rfl (hx.adi (i := k) (by simp; omega)) (by omega) (by omega) rfl ?_
    have hks : k < sizes.length := by omega
    have hsk := szOk_iff.1 (List.all_eq_true.1 hall sizes[k] (List.getElem_mem hks))
    have hdr := nsz_drop hks
    have hpl := prodN_drop_le hall k
    have hpl2 := prodN_drop_le hall (k + 1)
    have hps := prodN_pos (nsz_pos (all_take hall (k + 1)).2)
    generalize hmk : (sizes[k]).toNat = m at hdr
    have hm0 : 0 < m := by omega
    generalize hst : prodN (nsz (sizes.drop (k + 1))) = step at hpl2 hps
    refine TL.load hF rfl (v := .int .i64 (m : Int)) (by have h := (hx.up upc).int (i := k) hks (η := iseg b23 l.length F :: η); rw [show (m : Int) = sizes[k] by omega]; exact h) rfl ?_
    refine TL.assign hF rfl rfl ?_
    refine TL.nil ?_
    refine TQ.then_n ?_
    refine T.seq ?_
    refine T.region ?_
    refine TL.move hF rfl rfl ?_
    refine TL.move hF rfl rfl ?_
    refine TL.quoN hF rfl rfl hm0 (wrap_nat (by rw [hdr, prod_div hm0, hst]; omega)) rfl ?_
    rw [hdr, prod_div hm0, hst]
    refine TL.assign hF rfl rfl ?_
    refine TL.nil ?_
    refine TQ.then_n ?_
    refine T.seq ?_
    refine T.region ?_
    refine TL.move hF rfl rfl ?_
    refine TL.move hF rfl rfl ?_
    refine TL.nil ?_
    refine TQ.then_n ?_
    refine T.block ?_
    refine T.loop (ι := Nat) (fun k2 => k2 ≤ l.length) (fun k2 => [(2, .bool true), (3, .func (.func 65) #[] #[]), (9, .int .i64 (l.length : Int)), (10, .slice (some ⟨b23, 0, none⟩) l.length l.length), (11, .int .i64 (step : Int)), (13, .int .i64 (m : Int)), (28, .slice a sizes.length c), (29, .int .i64 (sizes.length : Int)), (30, .int .i64 (k : Int)), (37, .int .i64 (l.length : Int)), (38, .int .i64 (k2 : Int))]) (fun k2 => iseg b23 l.length (difK l.length step m k2 F) :: η) (fun k2 => l.length - k2) 0 (Nat.zero_le _) ⟨rfl, rfl, rfl, rfl, rfl, rfl, rfl, rfl, rfl, rfl, rfl, trivial⟩ (iseg_congr fun i hi => by unfold difK; rw [if_neg (by omega)]) ?_
    intro k2 hk2
    refine T.seq ?_
    refine T.region ?_
    refine TL.bin hF rfl rfl rfl rfl ?_
    refine TL.nil ?_
    refine TQ.then_n ?_
    refine T.seq ?_
    first | refine T.cond_d rfl (fun ht39 => ?_) (fun ht39 => ?_) | refine T.cond _ rfl (fun ht39 => ?_) (fun ht39 => ?_)
    ·refine T.skip ?_
     refine TQ.then_n ?_
     refine T.seq ?_
     refine T.block ?_
     refine T.seq ?_
     refine T.region ?_
     refine TL.move hF rfl rfl ?_
     refine TL.assign hF rfl rfl ?_
     refine TL.nil ?_
     refine TQ.then_n ?_
     refine T.seq ?_
     refine T.seq ?_
     refine T.region ?_
     refine TL.move hF rfl rfl ?_
     refine TL.nil ?_
     refine TQ.then_n ?_
     refine T.cond_t rfl rfl ?_
     refine T.region ?_
     refine TL.move hF rfl rfl ?_
     refine TL.sub hF rfl rfl (by omega) (by omega) rfl ?_
     refine TL.move hF rfl rfl ?_
     have hkl0 : k2 < l.length := by omega
     refine TL.subK hF rfl rfl (r := ((l.length - 1 - k2 : Nat) : Int)) (by rw [show ((l.length : Int) - 1 - (k2 : Int)) = ((l.length - 1 - k2 : Nat) : Int) by omega]; exact wrap_i64 (by omega) (by omega)) rfl ?_
     refine TL.assign hF rfl rfl ?_
     refine TL.nil ?_
     refine TQ.then_n ?_
     refine T.seq ?_
     refine T.region ?_
     refine TL.move hF rfl rfl ?_
     refine TL.move hF rfl rfl ?_
     have hkl : k2 < l.length := by omega
     refine TL.quoN hF rfl rfl hps (wrap_nat (Nat.le_trans (Nat.div_le_self (l.length - 1 - k2) step) (by omega))) rfl ?_
     refine TL.move hF rfl rfl ?_
     refine TL.remN hF rfl rfl hm0 rfl ?_
     refine TL.bin hF rfl rfl rfl rfl ?_
     refine TL.nil ?_
     refine TQ.then_n ?_
     first | refine T.cond_d rfl (fun ht51 => ?_) (fun ht51 => ?_) | refine T.cond _ rfl (fun ht51 => ?_) (fun ht51 => ?_)
     ·have hgt : 0 < ((l.length - 1 - k2) / step) % m := by omega
      have hgd : 0 < (l.length - 1 - k2) / step := Nat.pos_of_ne_zero (fun e => by rw [e] at hgt; simp at hgt)
      have hbk := (back_div hps hgd).1
      refine T.draw ?_
      refine DR.stepV [_] rfl [(10, _, none)] rfl rfl ⟨⟨rfl, by kernel_rfl⟩, trivial⟩ (fun ext => TL.move hF rfl rfl TL.fin) ?_
      refine DR.stepV [_, _] rfl [(14, _, none)] rfl rfl ⟨⟨rfl, by kernel_rfl⟩, trivial⟩ (fun ext => TL.move hF rfl rfl TL.fin) ?_
      refine DR.stepV [_, _, _] rfl [(3, _, none)] rfl rfl ⟨⟨rfl, by kernel_rfl⟩, trivial⟩ (fun ext => TL.move hF rfl rfl TL.fin) ?_
      refine DR.stepV [_, _, _, _] rfl [(10, _, none)] rfl rfl ⟨⟨rfl, by kernel_rfl⟩, trivial⟩ (fun ext => TL.move hF rfl rfl TL.fin) ?_
      refine DR.stepV [_, _, _, _, _] rfl [(14, _, none)] rfl rfl ⟨⟨rfl, by kernel_rfl⟩, trivial⟩ (fun ext => TL.move hF rfl rfl TL.fin) ?_
      refine DR.stepV [_, _, _, _, _, _] rfl [(55, _, some 3), (56, _, some 4)] rfl rfl ⟨⟨rfl, rfl, rfl⟩, ⟨rfl, rfl, rfl⟩, trivial⟩ (fun ext => TL.indexAddr hF rfl rfl ⟨_, rfl, rfl⟩ (by omega) (by omega) rfl TL.fin) ?_
      refine DR.stepV [_, _, _, _, _, _, _] rfl [(57, _, some 5)] rfl rfl ⟨⟨rfl, rfl, rfl⟩, trivial⟩ (fun ext => TL.load hF rfl (iseg_at (f := difK l.length step m k2 F) (n := l.length) (b := b23) (j := (l.length - 1 - k2)) (by simp) (by omega)) rfl TL.fin) ?_
      refine DR.stepV [_, _, _, _, _, _, _, _] rfl [(10, _, none)] rfl rfl ⟨⟨rfl, by kernel_rfl⟩, trivial⟩ (fun ext => TL.move hF rfl rfl TL.fin) ?_
      refine DR.stepV [_, _, _, _, _, _, _, _, _] rfl [(14, _, none)] rfl rfl ⟨⟨rfl, by kernel_rfl⟩, trivial⟩ (fun ext => TL.move hF rfl rfl TL.fin) ?_
      refine DR.stepV [_, _, _, _, _, _, _, _, _, _] rfl [(11, _, none)] rfl rfl ⟨⟨rfl, by kernel_rfl⟩, trivial⟩ (fun ext => TL.move hF rfl rfl TL.fin) ?_
      refine DR.stepV [_, _, _, _, _, _, _, _, _, _, _] rfl [(60, _, some 8), (61, _, some 9)] rfl rfl ⟨⟨rfl, rfl, rfl⟩, ⟨rfl, rfl, rfl⟩, trivial⟩ (fun ext => TL.sub hF rfl rfl (by omega) (by omega) rfl TL.fin) ?_
      refine DR.stepV [_, _, _, _, _, _, _, _, _, _, _, _] rfl [(59, _, some 7), (62, _, some 10)] rfl rfl ⟨⟨rfl, rfl, rfl⟩, ⟨rfl, rfl, rfl⟩, trivial⟩ (fun ext => TL.indexAddr hF rfl rfl ⟨_, rfl, rfl⟩ (by omega) (by omega) rfl TL.fin) ?_
      refine DR.stepV [_, _, _, _, _, _, _, _, _, _, _, _, _] rfl [(63, _, some 11)] rfl rfl ⟨⟨rfl, rfl, rfl⟩, trivial⟩ (fun ext => TL.load hF rfl (by have h := iseg_at (S := S) (w0 := w0) (η := iseg b23 l.length (difK l.length step m k2 F) :: η) (f := difK l.length step m k2 F) (n := l.length) (b := b23) (j := (l.length - 1 - k2) - step) (by simp) (by omega); rw [show ((((l.length - 1 - k2) : Nat) : Int) - (step : Int)).toNat = (l.length - 1 - k2) - step by omega]; exact h) rfl TL.fin) ?_
      refine DR.stepV [_, _, _, _, _, _, _, _, _, _, _, _, _, _] rfl [(54, _, some 2), (58, _, some 6), (64, _, some 12)] rfl rfl ⟨⟨rfl, rfl, rfl⟩, ⟨rfl, rfl, rfl⟩, ⟨rfl, rfl, rfl⟩, trivial⟩ (fun ext => TL.callV hF (dif2_fn _ _) rfl rfl TL.fin) ?_
      refine DR.done [(65, _), (64, _), (63, _), (62, _), (61, _), (60, _), (59, _), (58, _), (57, _), (56, _), (55, _), (54, _), (53, _), (52, _)] [_, _] mixed (by kernel_rfl) (by kernel_rfl) (by kernel_rfl) rfl rfl ?_
      refine TL.indexAddr hF rfl rfl ⟨_, rfl, rfl⟩ (by omega) (by omega) rfl ?_
      refine TL.storeI hF 0 rfl rfl rfl rfl (by simp [intC_len]; omega) ?_
      refine TL.nil ?_
      refine TQ.block_n ?_
      refine TQ.then_n ?_
      refine T.region ?_
      refine TL.add hF rfl rfl (by omega) (by omega) rfl ?_
      refine TL.move hF rfl rfl ?_
      refine TL.nil ?_
      refine TQ.round (k2 + 1) (by omega) (by omega) ⟨rfl, rfl, rfl, rfl, rfl, rfl, rfl, rfl, rfl, rfl, rfl, trivial⟩ (iseg_set (j := (l.length - 1 - k2)) (by simp) ?_)
      exact difK_set hkl hps hgt hbk
     ·refine T.skip ?_
      refine TQ.block_n ?_
      refine TQ.then_n ?_
      refine T.region ?_
      refine TL.add hF rfl rfl (by omega) (by omega) rfl ?_
      refine TL.move hF rfl rfl ?_
      refine TL.nil ?_
      refine TQ.round (k2 + 1) (by omega) (by omega) ⟨rfl, rfl, rfl, rfl, rfl, rfl, rfl, rfl, rfl, rfl, rfl, trivial⟩ (iseg_congr ?_)
      exact difK_skip hkl hF1 (by omega)
    ·refine T.exit ?_
     refine TQ.then_x ?_
     refine TQ.then_x ?_
     refine TQ.block_x ?_
     refine TQ.block_n ?_
     refine TQ.then_n ?_
     refine T.region ?_
     refine TL.add hF rfl rfl (by omega) (by omega) rfl ?_
     refine TL.move hF rfl rfl ?_
     refine TL.nil ?_
     have hkn : k2 = l.length := by omega
     refine TQ.round (k + 1, fun x => wr (difS step m F x)) ⟨by dsimp only; omega, fun x => (wr_wr _).symm, fun x => ?_⟩ (by dsimp only; omega) ⟨rfl, rfl, rfl, rfl, by dsimp only; rw [hst]; rfl, rfl, rfl, rfl, trivial⟩ (iseg_congr fun i hi => by unfold difK; rw [if_pos (by omega)])
     rw [← hF2 x, hdr]
     simp only [difsS]
     rw [hst]
     exact difsS_wr (fun y => wr_wr _) x
   ·refine T.exit ?_
    refine TQ.then_x ?_
    refine TQ.then_x ?_
    refine TQ.block_x ?_
    refine TQ.then_n ?_
    refine T.seq ?_
    refine T.region ?_
    refine TL.move hF rfl rfl ?_
    refine TL.assign hF rfl rfl ?_
    refine TL.nil ?_
    refine TQ.then_n ?_
    refine T.ret ?_
    refine TQ.retsE [8] _ rfl rfl rfl ?_
    have e : linesE sizes l = 0 := by unfold linesE; rw [if_neg (by omega), if_pos hn.symm]
    refine ⟨e, b23, rfl, ?_⟩
    have e2 : sizes.drop k = [] := List.drop_of_length_le (by omega)
    rw [e2] at hF2
    exact iseg_congr fun i hi => (hF1 i).trans (hF2 i)
  ·skip
   refine TQ.then_p ?_
   have e : linesE sizes l = 2 := by unfold linesE; rw [if_neg (by omega), if_neg (by simp at hA; omega)]
   exact TQ.panicE ⟨.inr e, by rw [e], rfl⟩
 ·rintro _ η2 ⟨hc0, rfl, hη⟩
  have hη := hη.symm
  subst hη
  refine TQ.then_p ?_
  have e : linesE sizes l = 1 := by unfold linesE; rw [if_pos (by omega)]
  exact TQ.panicE ⟨.inl e, by rw [e], rfl⟩
end Go.Proofs.YteimjjpigohnhaaGreat
/- Sums and Changes, by the program. -/
namespace Go.Proofs.YteimjjpigohnhaaGreat
open Go.Sl
variable {S : Nat → Prop} {w0 : World} {η : Heap}
/-- What a box makes of numbers. -/
def boxL (F : List Nat → (Nat → Int) → Nat → Int) (sizes l : List Int) : List Int × Int := if linesE sizes l = 0 then ((List.range l.length).map fun i => wr (F (nsz sizes) (getI l) i), 0) else ([], linesE sizes l)
def sumsP := boxL sumsS
def difsP := boxL difsS
theorem linesE_cases (a b : List Int) : linesE a b = 0 ∨ linesE a b = 1 ∨ linesE a b = 2 := by unfold linesE; split <;> (try split) <;> simp
/-- Words. -/
def Wd (l : List Int) : Prop := ∀ x ∈ l, -9223372036854775808 ≤ x ∧ x ≤ 9223372036854775807
set_option maxHeartbeats 2000000 in
theorem Sums_prog {a b : Option Addr} {sizes l : List Int} {c d : Nat} (hx : Row S w0 η a (ints sizes)) (hy : Row S w0 η b (ints l)) (hl : sizes.length < 2 ^ 63) (hl2 : l.length < 2 ^ 63) (hw : Wd l) :
  Rt Tryz.prog 16 [.slice a sizes.length c, .slice b l.length d].toArray S w0 η (ResT S w0 (sumsP sizes l) η) := by
 have hF := open_wide
 refine Rt.ofL (fn := Tryz.f16) Tryz.func16 rfl rfl ?_
 refine T.seq ?_
 refine T.region ?_
 refine TL.assign hF rfl rfl ?_
 refine TL.alloc hF rfl (fun b5 => ?_)
 refine TL.nil ?_
 refine TQ.then_n ?_
 refine T.seq ?_
 refine T.region ?_
 refine TL.makeFunc hF rfl rfl rfl ?_
 refine TL.defer hF rfl rfl ?_
 refine TL.nil ?_
 refine TQ.then_n ?_
 refine T.seq ?_
 refine T.region ?_
 refine TL.move hF rfl rfl ?_
 refine TL.move hF rfl rfl ?_
 refine TL.callE hF (lines_sum (hx.up upc) (hy.up upc) hl hl2 hw) rfl rfl ?_ ?_
 ·rintro _ η2 ⟨he, g, rfl, hη⟩
  have hη := hη.symm
  subst hη
  refine TL.assign hF rfl rfl ?_
  refine TL.storeI hF 1 rfl rfl rfl rfl (by decide) ?_
  refine TL.nil ?_
  refine TQ.then_n ?_
  refine T.ret ?_
  refine TQ.retL [4] _ stop60 (stopped_nil _) rfl rfl rfl (own_mem (e := ERR) (fz := (0, 0)) (cs := #[.int .i64 0]) (by simp [Value.cells]) rfl) ?_
  have e : sumsP sizes l = ((List.range l.length).map fun i => wr (sumsS (nsz sizes) (getI l) i), 0) := by unfold sumsP boxL; rw [if_pos he]
  rw [e]
  exact ⟨some ⟨g, 0, none⟩, l.length, [iseg g l.length fun i => wr (sumsS (nsz sizes) (getI l) i), _], by simp; rfl, by rw [← intC_ints]; exact row_own (e := 3) List.mem_cons_self, rfl⟩
 ·rintro _ η2 ⟨he, rfl, hη⟩
  have hη := hη.symm
  subst hη
  refine TQ.then_p ?_
  refine TQ.panL [4] [.slice none 0 0] stop60 (stopped_err _) rfl rfl rfl (At.own' (i := 0) rfl rfl) ?_
  have e : sumsP sizes l = ([], linesE sizes l) := by unfold sumsP boxL; rw [if_neg (by omega)]
  rw [e]
  exact ⟨none, 0, [_], rfl, Row.none, rfl⟩
set_option maxHeartbeats 2000000 in
theorem Changes_prog {a b : Option Addr} {sizes l : List Int} {c d : Nat} (hx : Row S w0 η a (ints sizes)) (hy : Row S w0 η b (ints l)) (hl : sizes.length < 2 ^ 63) (hl2 : l.length < 2 ^ 63) (hw : Wd l) :
  Rt Tryz.prog 17 [.slice a sizes.length c, .slice b l.length d].toArray S w0 η (ResT S w0 (difsP sizes l) η) := by
 have hF := open_wide
 refine Rt.ofL (fn := Tryz.f17) Tryz.func17 rfl rfl ?_
 refine T.seq ?_
 refine T.region ?_
 refine TL.assign hF rfl rfl ?_
 refine TL.alloc hF rfl (fun b5 => ?_)
 refine TL.nil ?_
 refine TQ.then_n ?_
 refine T.seq ?_
 refine T.region ?_
 refine TL.makeFunc hF rfl rfl rfl ?_
 refine TL.defer hF rfl rfl ?_
 refine TL.nil ?_
 refine TQ.then_n ?_
 refine T.seq ?_
 refine T.region ?_
 refine TL.move hF rfl rfl ?_
 refine TL.move hF rfl rfl ?_
 refine TL.callE hF (lines_dif (hx.up upc) (hy.up upc) hl hl2 hw) rfl rfl ?_ ?_
 ·rintro _ η2 ⟨he, g, rfl, hη⟩
  have hη := hη.symm
  subst hη
  refine TL.assign hF rfl rfl ?_
  refine TL.storeI hF 1 rfl rfl rfl rfl (by decide) ?_
  refine TL.nil ?_
  refine TQ.then_n ?_
  refine T.ret ?_
  refine TQ.retL [4] _ stop64 (stopped_nil _) rfl rfl rfl (own_mem (e := ERR) (fz := (0, 0)) (cs := #[.int .i64 0]) (by simp [Value.cells]) rfl) ?_
  have e : difsP sizes l = ((List.range l.length).map fun i => wr (difsS (nsz sizes) (getI l) i), 0) := by unfold difsP boxL; rw [if_pos he]
  rw [e]
  exact ⟨some ⟨g, 0, none⟩, l.length, [iseg g l.length fun i => wr (difsS (nsz sizes) (getI l) i), _], by simp; rfl, by rw [← intC_ints]; exact row_own (e := 3) List.mem_cons_self, rfl⟩
 ·rintro _ η2 ⟨he, rfl, hη⟩
  have hη := hη.symm
  subst hη
  refine TQ.then_p ?_
  refine TQ.panL [4] [.slice none 0 0] stop64 (stopped_err _) rfl rfl rfl (At.own' (i := 0) rfl rfl) ?_
  have e : difsP sizes l = ([], linesE sizes l) := by unfold difsP boxL; rw [if_neg (by omega)]
  rw [e]
  exact ⟨none, 0, [_], rfl, Row.none, rfl⟩
end Go.Proofs.YteimjjpigohnhaaGreat
/- A list of one number again and again. -/
namespace Go.Proofs.YteimjjpigohnhaaGreat
open Go.Sl
variable {S : Nat → Prop} {w0 : World} {η : Heap}
theorem hmask (a : Nat) (h : a < 4294967296) : a &&& 4294967295 = a := by
 rw [show 4294967295 = 2 ^ 32 - 1 from rfl, Nat.and_two_pow_sub_one_eq_mod]; exact Nat.mod_eq_of_lt h
theorem wrap0 : IntKind.u64.wrap 0 = 0 := by decide

set_option maxHeartbeats 2000000 in
theorem Mul64_fn (n : Nat) (hn : n ≤ 1000) :
  Rt Tryz.prog 151 [.int .u64 ((1 : Nat) : Int), .int .u64 (n : Int)].toArray S w0 η (fun v η' => v = .tuple #[.int .u64 0, .int .u64 (n : Int)] ∧ η' = η) := by
 have hF := open_wide
 refine Rt.of (fn := Tryz.f151) Tryz.func151 rfl rfl ?_
 refine T.seq ?_
 refine T.region ?_
 refine TL.assign hF rfl rfl ?_
 refine TL.assign hF rfl rfl ?_
 refine TL.nil ?_
 refine TQ.then_n ?_
 refine T.seq ?_
 refine T.region ?_
 refine TL.move hF rfl rfl ?_
 refine TL.andN hF (a := 1) (m := 4294967295) rfl rfl rfl (by show _ < 2 ^ 64; omega) (by decide) rfl ?_
 rw [show (1 &&& 4294967295 : Nat) = 1 from hmask _ (by omega)]
 refine TL.assign hF rfl rfl ?_
 refine TL.nil ?_
 refine TQ.then_n ?_
 refine T.seq ?_
 refine T.region ?_
 refine TL.move hF rfl rfl ?_
 refine TL.shrN hF (a := 1) (s := 32) rfl rfl (by decide) rfl ?_
 rw [show (1 / 2 ^ 32 : Nat) = 0 from Nat.div_eq_of_lt (by omega)]
 refine TL.assign hF rfl rfl ?_
 refine TL.nil ?_
 refine TQ.then_n ?_
 refine T.seq ?_
 refine T.region ?_
 refine TL.move hF rfl rfl ?_
 refine TL.andN hF (a := n) (m := 4294967295) rfl rfl rfl (by show _ < 2 ^ 64; omega) (by decide) rfl ?_
 rw [show (n &&& 4294967295 : Nat) = n from hmask _ (by omega)]
 refine TL.assign hF rfl rfl ?_
 refine TL.nil ?_
 refine TQ.then_n ?_
 refine T.seq ?_
 refine T.region ?_
 refine TL.move hF rfl rfl ?_
 refine TL.shrN hF (a := n) (s := 32) rfl rfl (by decide) rfl ?_
 rw [show (n / 2 ^ 32 : Nat) = 0 from Nat.div_eq_of_lt (by omega)]
 refine TL.assign hF rfl rfl ?_
 refine TL.nil ?_
 refine TQ.then_n ?_
 refine T.seq ?_
 refine T.region ?_
 refine TL.move hF rfl rfl ?_
 refine TL.move hF rfl rfl ?_
 refine TL.mulK hF (r := (n : Int)) rfl rfl (by first | (simp; done) | (simp; exact wrap_u64 (by omega) (by omega))) rfl ?_
 refine TL.assign hF rfl rfl ?_
 refine TL.nil ?_
 refine TQ.then_n ?_
 refine T.seq ?_
 refine T.region ?_
 refine TL.move hF rfl rfl ?_
 refine TL.move hF rfl rfl ?_
 refine TL.mulK hF (r := 0) rfl rfl (by first | (simp; done) | (simp; exact wrap_u64 (by omega) (by omega))) rfl ?_
 refine TL.move hF rfl rfl ?_
 refine TL.shrN hF (a := n) (s := 32) rfl rfl (by decide) rfl ?_
 rw [show (n / 2 ^ 32 : Nat) = 0 from Nat.div_eq_of_lt (by omega)]
 refine TL.addK hF (r := ((0 : Nat) : Int)) rfl rfl (by first | (simp; done) | (simp; exact wrap_u64 (by omega) (by omega))) rfl ?_
 refine TL.assign hF rfl rfl ?_
 refine TL.nil ?_
 refine TQ.then_n ?_
 refine T.seq ?_
 refine T.region ?_
 refine TL.move hF rfl rfl ?_
 refine TL.andN hF (a := 0) (m := 4294967295) rfl rfl rfl (by show _ < 2 ^ 64; omega) (by decide) rfl ?_
 rw [show (0 &&& 4294967295 : Nat) = 0 from hmask _ (by omega)]
 refine TL.assign hF rfl rfl ?_
 refine TL.nil ?_
 refine TQ.then_n ?_
 refine T.seq ?_
 refine T.region ?_
 refine TL.move hF rfl rfl ?_
 refine TL.shrN hF (a := 0) (s := 32) rfl rfl (by decide) rfl ?_
 rw [show (0 / 2 ^ 32 : Nat) = 0 from Nat.div_eq_of_lt (by omega)]
 refine TL.assign hF rfl rfl ?_
 refine TL.nil ?_
 refine TQ.then_n ?_
 refine T.seq ?_
 refine T.region ?_
 refine TL.move hF rfl rfl ?_
 refine TL.move hF rfl rfl ?_
 refine TL.move hF rfl rfl ?_
 refine TL.mulK hF (r := 0) rfl rfl (by first | (simp; done) | (simp; exact wrap_u64 (by omega) (by omega))) rfl ?_
 refine TL.addK hF (r := ((0 : Nat) : Int)) rfl rfl (by first | (simp; done) | (simp; exact wrap_u64 (by omega) (by omega))) rfl ?_
 refine TL.assign hF rfl rfl ?_
 refine TL.nil ?_
 refine TQ.then_n ?_
 refine T.seq ?_
 refine T.region ?_
 refine TL.move hF rfl rfl ?_
 refine TL.move hF rfl rfl ?_
 refine TL.mulK hF (r := 0) rfl rfl (by first | (simp; done) | (simp; exact wrap_u64 (by omega) (by omega))) rfl ?_
 refine TL.move hF rfl rfl ?_
 refine TL.addK hF (r := 0) rfl rfl (by first | (simp; done) | (simp; exact wrap_u64 (by omega) (by omega))) rfl ?_
 refine TL.move hF rfl rfl ?_
 refine TL.shrN hF (a := 0) (s := 32) rfl rfl (by decide) rfl ?_
 rw [show (0 / 2 ^ 32 : Nat) = 0 from Nat.div_eq_of_lt (by omega)]
 refine TL.addK hF (r := 0) rfl rfl (by first | (simp; done) | (simp; exact wrap_u64 (by omega) (by omega))) rfl ?_
 refine TL.assign hF rfl rfl ?_
 refine TL.nil ?_
 refine TQ.then_n ?_
 refine T.seq ?_
 refine T.region ?_
 refine TL.move hF rfl rfl ?_
 refine TL.move hF rfl rfl ?_
 refine TL.mulK hF (r := (n : Int)) rfl rfl (by first | (simp; done) | (simp; exact wrap_u64 (by omega) (by omega))) rfl ?_
 refine TL.assign hF rfl rfl ?_
 refine TL.nil ?_
 refine TQ.then_n ?_
 refine T.ret ?_
 refine TQ.rets [4, 5] _ rfl rfl rfl ?_
 exact ⟨rfl, rfl⟩
set_option maxHeartbeats 2000000 in
theorem Mul_fn (n : Nat) (hn : n ≤ 1000) :
  Rt Tryz.prog 138 [.int .u64 ((1 : Nat) : Int), .int .u64 (n : Int)].toArray S w0 η (fun v η' => v = .tuple #[.int .u64 0, .int .u64 (n : Int)] ∧ η' = η) := by
 have hF := open_wide
 refine Rt.of (fn := Tryz.f138) Tryz.func138 rfl rfl ?_
 refine T.seq ?_
 refine T.region ?_
 refine TL.assign hF rfl rfl ?_
 refine TL.assign hF rfl rfl ?_
 refine TL.nil ?_
 refine TQ.then_n ?_
 refine T.seq ?_
 refine T.cond_f rfl rfl ?_
 refine T.skip ?_
 refine TQ.then_n ?_
 refine T.seq ?_
 refine T.region ?_
 refine TL.move hF rfl rfl ?_
 refine TL.move hF rfl rfl ?_
 refine TL.callV hF (Mul64_fn n hn) rfl rfl ?_
 refine TL.move hF rfl rfl ?_
 refine TL.extract hF rfl rfl rfl ?_
 refine TL.extract hF rfl rfl rfl ?_
 refine TL.assign hF rfl rfl ?_
 refine TL.assign hF rfl rfl ?_
 refine TL.nil ?_
 refine TQ.then_n ?_
 refine T.seq ?_
 refine T.region ?_
 refine TL.move hF rfl rfl ?_
 refine TL.move hF rfl rfl ?_
 refine TL.assign hF rfl rfl ?_
 refine TL.assign hF rfl rfl ?_
 refine TL.nil ?_
 refine TQ.then_n ?_
 refine T.ret ?_
 refine TQ.rets [4, 5] _ rfl rfl rfl ?_
 exact ⟨rfl, rfl⟩
theorem _root_.Go.Sl.Row.pre {a : Option Addr} {cs : List Value} (h : Row S w0 η a cs) (k : Nat) : Row S w0 η a (cs.take k) :=
 ⟨fun hl => h.ad (by simp at hl; omega), fun i v hi => h.cell i v (by
  rw [List.getElem?_take] at hi; split at hi
  ·exact hi
  ·cases hi)⟩
theorem cutAt {b n k : Nat} (h : n ≠ k) : (if n = k then some (⟨b, 0, none⟩ : Addr) else (some (⟨b, 0, none⟩ : Addr)).map (·.add (k * 1))) = some ⟨b, k, none⟩ := by
 rw [if_neg h]; simp only [Option.map_some, Nat.mul_one]
 unfold Addr.add; split
 ·rename_i h0; simp [h0]
 ·simp
theorem cut0 {b n : Nat} : (if n = 0 then some (⟨b, 0, none⟩ : Addr) else (some (⟨b, 0, none⟩ : Addr)).map (·.add (0 * 1))) = some ⟨b, 0, none⟩ := by
 split <;> simp [Addr.add]
def stC (v : Int) (k i : Nat) : Int := if i < k then v else 0
theorem stC_grow {v : Int} {n k c : Nat} (hc : c ≤ k) (hn : k + c ≤ n) : (intC n (stC v k)).take k ++ (intC n (stC v k)).take c ++ (intC n (stC v k)).drop (k + c * 1) = intC n (stC v (k + c)) := by
 apply List.ext_getElem?
 intro i
 by_cases hi : i < n
 ·rw [intC_get hi]
  rcases Nat.lt_or_ge i k with h1 | h1
  ·rw [List.append_assoc, List.getElem?_append_left (by simp [intC_len]; omega), List.getElem?_take_of_lt h1, intC_get hi]
   simp [stC, h1, show i < k + c by omega]
  ·rcases Nat.lt_or_ge i (k + c) with h2 | h2
   ·rw [List.append_assoc, List.getElem?_append_right (by simp [intC_len]; omega), List.length_take, intC_len, Nat.min_eq_left (by omega), List.getElem?_append_left (by simp [intC_len]; omega), List.getElem?_take_of_lt (by omega), intC_get (by omega)]
    simp [stC, h2, show i - k < k by omega]
   ·rw [List.getElem?_append_right (by simp [intC_len]; omega), List.getElem?_drop]
    have e : k + c * 1 + (i - (List.take k (intC n (stC v k)) ++ List.take c (intC n (stC v k))).length) = i := by simp [intC_len]; omega
    rw [e, intC_get hi]
    simp [stC, show ¬ i < k by omega, show ¬ i < k + c by omega]
 ·have e1 : (intC n (stC v (k + c)))[i]? = none := List.getElem?_eq_none (by rw [intC_len]; omega)
  rw [e1]; apply List.getElem?_eq_none; simp [intC_len]; omega
theorem stC_one {v : Int} {n : Nat} (hn : 1 ≤ n) : (intC n fun _ => 0).take 0 ++ ints [v] ++ (intC n fun _ => 0).drop (0 + 1 * 1) = intC n (stC v 1) := by
 apply List.ext_getElem?
 intro i
 by_cases hi : i < n
 ·rw [intC_get hi]
  cases i with
  | zero => simp [stC]
  | succ i => simp [stC]; exact intC_get hi
 ·have e1 : (intC n (stC v 1))[i]? = none := List.getElem?_eq_none (by rw [intC_len]; omega)
  rw [e1]; apply List.getElem?_eq_none; simp [intC_len]; omega
theorem stC_min {v : Int} {n : Nat} : (intC n fun _ => 0).take 0 ++ (ints [v]).take (min n 1) ++ (intC n fun _ => 0).drop (0 + (min n 1) * 1) = intC n (stC v (min n 1)) := by
 cases n with
 | zero => rfl
 | succ n => rw [show min (n + 1) 1 = 1 by omega]; exact stC_one (by omega)

set_option maxHeartbeats 2000000 in
theorem Repeat_fn {a : Option Addr} {c n : Nat} {v : Int} (hn : n ≤ 1000) (hx : Row S w0 η a (ints [v])) :
  Rt Tryz.prog 128 [.slice a 1 c, .int .i64 (n : Int)].toArray S w0 η (fun r η' => ∃ b, r = .slice (some ⟨b, 0, none⟩) n n ∧ η' = iseg b n (fun _ => v) :: η) := by
 have hF := open_wide
 refine Rt.of (fn := Tryz.f128) Tryz.func128 rfl rfl ?_
 refine T.seq ?_
 refine T.region ?_
 refine TL.assign hF rfl rfl ?_
 refine TL.nil ?_
 refine TQ.then_n ?_
 refine T.seq ?_
 refine T.seq ?_
 refine T.region ?_
 refine TL.move hF rfl rfl ?_
 refine TL.bin hF rfl rfl rfl rfl ?_
 refine TL.nil ?_
 refine TQ.then_n ?_
 refine T.cond_f rfl (by simp) ?_
 refine T.skip ?_
 refine TQ.then_n ?_
 refine T.seq ?_
 refine T.region ?_
 refine TL.move hF rfl rfl ?_
 refine TL.len hF rfl rfl ?_
 refine TL.convK hF (r := ((1 : Nat) : Int)) rfl (wrap_u64 (by omega) (by omega)) rfl ?_
 refine TL.move hF rfl rfl ?_
 refine TL.convK hF (r := (n : Int)) rfl (wrap_u64 (by omega) (by omega)) rfl ?_
 refine TL.callV hF (Mul_fn n hn) rfl rfl ?_
 refine TL.move hF rfl rfl ?_
 refine TL.extract hF rfl rfl rfl ?_
 refine TL.extract hF rfl rfl rfl ?_
 refine TL.assign hF rfl rfl ?_
 refine TL.assign hF rfl rfl ?_
 refine TL.nil ?_
 refine TQ.then_n ?_
 refine T.seq ?_
 refine T.seq ?_
 refine T.region ?_
 refine TL.move hF rfl rfl ?_
 refine TL.bin hF rfl rfl rfl rfl ?_
 refine TL.move hF rfl rfl ?_
 refine TL.on rfl rfl rfl (by simp) ?_
 refine TL.move hF rfl rfl ?_
 refine TL.on rfl rfl rfl (by simp) ?_
 refine TL.bin hF rfl rfl rfl rfl ?_
 refine TL.pickF hF rfl (by simp) rfl rfl ?_
 refine TL.nil ?_
 refine TQ.then_n ?_
 refine T.cond_f rfl (by first | (simp; done) | (simp; omega)) ?_
 refine T.skip ?_
 refine TQ.then_n ?_
 refine T.seq ?_
 refine T.region ?_
 refine TL.move hF rfl rfl ?_
 refine TL.convK hF (r := (n : Int)) rfl (wrap_i64 (by omega) (by omega)) rfl ?_
 refine TL.makeSlice hF (k := n) rfl rfl rfl (by omega) (by omega) rfl (fun b30 => ?_)
 refine TL.assign hF rfl rfl ?_
 refine TL.nil ?_
 refine TQ.then_n ?_
 refine T.seq ?_
 refine T.region ?_
 refine TL.move hF rfl rfl ?_
 refine TL.move hF rfl rfl ?_
 rw [intC_zero]
 refine TL.copy hF 0 (cs := intC n fun _ => 0) (e' := 3) (k := min n 1) ((ints [v]).take (min n 1)) (intC n (stC v (min n 1))) rfl rfl rfl (by omega) ((hx.up upc).pre _) (by simp [ints] <;> omega) (fun u hu => ints1 _ u (List.mem_of_mem_take hu)) (by rw [intC_len]; omega) stC_min rfl ?_
 refine TL.assign hF rfl rfl ?_
 refine TL.nil ?_
 refine TQ.then_n ?_
 refine T.seq ?_
 refine T.block ?_
 refine T.loop (ι := Nat) (fun k => min n 1 ≤ k ∧ k ≤ n) (fun k => [(7, .slice (some ⟨b30, 0, none⟩) n n), (8, .int .i64 (k : Int))]) (fun k => iseg b30 n (stC v k) :: η) (fun k => n - k) (min n 1) ⟨Nat.le_refl _, by omega⟩ ⟨rfl, rfl, trivial⟩ rfl ?_
 rintro k ⟨hk1, hk⟩
 refine T.seq ?_
 refine T.seq ?_
 refine T.region ?_
 refine TL.move hF rfl rfl ?_
 refine TL.move hF rfl rfl ?_
 refine TL.len hF rfl rfl ?_
 refine TL.bin hF rfl rfl rfl rfl ?_
 refine TL.nil ?_
 refine TQ.then_n ?_
 first | refine T.cond_d rfl (fun ht37 => ?_) (fun ht37 => ?_) | refine T.cond _ rfl (fun ht37 => ?_) (fun ht37 => ?_)
 ·refine T.skip ?_
  refine TQ.then_n ?_
  refine T.block ?_
  have hkn : k < n := by have h : (k : Int) < n := ht37; omega
  refine T.drawH 8 mixed ?_
  refine DH.pure (i := 0) [(8, _, none)] rfl rfl rfl rfl ⟨⟨rfl, by kernel_rfl⟩, trivial⟩ (fun _ ext => TL.move hF rfl rfl TL.fin) ?_
  refine DH.pure (i := 1) [(7, _, none)] rfl rfl rfl rfl ⟨⟨rfl, by kernel_rfl⟩, trivial⟩ (fun _ ext => TL.move hF rfl rfl TL.fin) ?_
  refine DH.pure (i := 2) [(8, _, none)] rfl rfl rfl rfl ⟨⟨rfl, by kernel_rfl⟩, trivial⟩ (fun _ ext => TL.move hF rfl rfl TL.fin) ?_
  refine DH.pure (i := 3) [(39, _, some 1), (40, _, some 2)] rfl rfl rfl rfl ⟨⟨rfl, rfl, rfl⟩, ⟨rfl, rfl, rfl⟩, trivial⟩ (fun _ ext => (by
     refine TL.slice hF (i := k) (j := n) rfl rfl rfl (by omega) (by omega) rfl ?_
     rw [cutAt (show n ≠ k by omega)]
     exact TL.fin)) ?_
  refine DH.pure (i := 4) [(7, _, none)] rfl rfl rfl rfl ⟨⟨rfl, by kernel_rfl⟩, trivial⟩ (fun _ ext => TL.move hF rfl rfl TL.fin) ?_
  refine DH.pure (i := 5) [(8, _, none)] rfl rfl rfl rfl ⟨⟨rfl, by kernel_rfl⟩, trivial⟩ (fun _ ext => TL.move hF rfl rfl TL.fin) ?_
  refine DH.pure (i := 6) [(42, _, some 4), (43, _, some 5)] rfl rfl rfl rfl ⟨⟨rfl, rfl, rfl⟩, ⟨rfl, rfl, rfl⟩, trivial⟩ (fun _ ext => (by
     refine TL.slice hF (i := 0) (j := k) rfl rfl rfl (by omega) (by omega) rfl ?_
     rw [cut0]
     exact TL.fin)) ?_
  refine DH.heavy 7 [(41, _, some 3), (44, _, some 6)] (by kernel_rfl) (by kernel_rfl) (by kernel_rfl) (by kernel_rfl) rfl rfl rfl rfl ⟨⟨rfl, rfl, rfl⟩, ⟨rfl, rfl, rfl⟩, trivial⟩ (by kernel_rfl) (fun ext => ?_)
  refine TL.copy hF 0 (cs := intC n (stC v k)) (e' := 3) (k := min k (n - k)) ((intC n (stC v k)).take (min k (n - k))) (intC n (stC v (k + min k (n - k)))) rfl rfl rfl rfl ((row_own (e := 3) (by simp)).pre _) (by simp [intC_len] <;> omega) (by intro u hu; obtain ⟨j, _, rfl⟩ := List.mem_map.1 (List.mem_of_mem_take hu); rfl) (by rw [intC_len]; omega) (stC_grow (by omega) (by omega)) rfl ?_
  refine TL.finD ?_
  refine DH.done [(45, _), (44, _), (43, _), (42, _), (41, _), (40, _), (39, _), (38, _)] [_, _] (by kernel_rfl) (by kernel_rfl) (by kernel_rfl) (by kernel_rfl) rfl rfl ?_
  refine TL.add hF rfl rfl (by omega) (by omega) rfl ?_
  refine TL.assign hF rfl rfl ?_
  refine TL.nil ?_
  refine TQ.block_n ?_
  exact TQ.round (k + min k (n - k)) ⟨by omega, by omega⟩ (by omega) ⟨rfl, congrArg (fun z => some (Value.int .i64 z)) (by omega), trivial⟩ rfl
 ·refine T.exit ?_
  refine TQ.then_x ?_
  refine TQ.then_x ?_
  refine TQ.block_x ?_
  refine TQ.then_n ?_
  refine T.seq ?_
  refine T.region ?_
  refine TL.move hF rfl rfl ?_
  refine TL.assign hF rfl rfl ?_
  refine TL.nil ?_
  refine TQ.then_n ?_
  refine T.ret ?_
  refine TQ.rets [4] _ rfl rfl rfl ?_
  have hkn : k = n := by have h : ¬ (k : Int) < n := ht37; omega
  subst hkn
  exact ⟨b30, rfl, iseg_congr (fun i hi => by simp [stC, hi])⟩
end Go.Proofs.YteimjjpigohnhaaGreat
/- Pairs found by trying: what the walks compute. -/
namespace Go.Proofs.YteimjjpigohnhaaGreat
open Go.Sl
/-- Who was tried; who is before one; who is next of one. -/
structure Mt where
  tried : Nat → Bool
  mate : Nat → Int
  nx : Nat → Int
def Mt.try' (s : Mt) (j : Nat) : Mt := ⟨upd s.tried j true, s.mate, s.nx⟩
def Mt.link (s : Mt) (i j : Nat) : Mt := ⟨s.tried, upd s.mate j (i : Int), upd s.nx i (j : Int)⟩
def afterL (E : Nat → Nat → Bool) (n i : Nat) : List Nat := (List.range n).filter fun j => E i j
theorem mem_afterL {E : Nat → Nat → Bool} {n i j : Nat} : j ∈ afterL E n i ↔ j < n ∧ E i j = true := by simp [afterL]
/-- One of some is found for i. -/
def augL (rec : Nat → Mt → Mt × Bool) (i : Nat) : List Nat → Mt → Mt × Bool
  | [], s => (s, false)
  | j :: r, s =>
    if s.tried j = true then augL rec i r s
    else if s.mate j < 0 then ((s.try' j).link i j, true)
    else if (rec (s.mate j).toNat (s.try' j)).2 = true then ((rec (s.mate j).toNat (s.try' j)).1.link i j, true)
    else augL rec i r (rec (s.mate j).toNat (s.try' j)).1
def aug (E : Nat → Nat → Bool) (n : Nat) : Nat → Nat → Mt → Mt × Bool
  | 0, _, s => (s, false)
  | f + 1, i, s => augL (aug E n f) i (afterL E n i) s
/-- How many are not tried. -/
def unt (n : Nat) (t : Nat → Bool) : Nat := (List.range n).countP fun j => !t j
theorem unt_mono {n : Nat} {t u : Nat → Bool} (h : ∀ j, j < n → t j = true → u j = true) : unt n u ≤ unt n t := by
  unfold unt
  refine List.countP_mono_left fun j hj hu => ?_
  have hj := List.mem_range.1 hj
  cases ht : t j with
  | false => rfl
  | true => rw [h j hj ht] at hu; cases hu
theorem unt_upd {n j : Nat} {t : Nat → Bool} (hj : j < n) (h : t j = false) : unt n (upd t j true) < unt n t := by
  have key : ∀ l : List Nat, l.Nodup → j ∈ l → l.countP (fun k => !upd t j true k) < l.countP fun k => !t k := by
    intro l
    induction l with
    | nil => intro _ hm; simp at hm
    | cons x l ih =>
      intro hnd hm
      have hm2 : ∀ k ∈ l, (!upd t j true k) = true → (!t k) = true := fun k _ hk => by
        unfold upd at hk; split at hk
        · simp at hk
        · exact hk
      by_cases e : x = j
      · have h1 := List.countP_mono_left hm2
        rw [List.countP_cons, List.countP_cons]
        have e1 : upd t j true x = true := by unfold upd; rw [if_pos e]
        rw [e1, e, h]; simp; exact Nat.lt_succ_of_le h1
      · have h1 := ih (List.nodup_cons.1 hnd).2 ((List.mem_cons.1 hm).resolve_left (Ne.symm e))
        rw [List.countP_cons, List.countP_cons]
        have e1 : upd t j true x = t x := by unfold upd; rw [if_neg e]
        rw [e1]; omega
  exact key _ List.nodup_range (List.mem_range.2 hj)
theorem unt_le (n : Nat) (t : Nat → Bool) : unt n t ≤ n := by unfold unt; exact Nat.le_trans List.countP_le_length (by simp)
/-- What holds of a state at all times. -/
structure MtOk (n : Nat) (s : Mt) : Prop where
  mate : ∀ j, j < n → -1 ≤ s.mate j ∧ s.mate j < n
  nx : ∀ i, i < n → -1 ≤ s.nx i ∧ s.nx i < n
theorem MtOk.try' {n j : Nat} {s : Mt} (h : MtOk n s) : MtOk n (s.try' j) := ⟨h.mate, h.nx⟩
theorem MtOk.link {n i j : Nat} {s : Mt} (h : MtOk n s) (hi : i < n) (hj : j < n) : MtOk n (s.link i j) :=
  ⟨fun k hk => by
    simp only [Mt.link]; unfold upd; split
    · omega
    · exact h.mate k hk,
   fun k hk => by
    simp only [Mt.link]; unfold upd; split
    · omega
    · exact h.nx k hk⟩
/-- What a search keeps. -/
def Keep (n : Nat) (s s' : Mt) : Prop := MtOk n s' ∧ ∀ j, j < n → s.tried j = true → s'.tried j = true
theorem augL_keep {rec : Nat → Mt → Mt × Bool} {n i : Nat} (hi : i < n) (hr : ∀ k s, k < n → MtOk n s → Keep n s (rec k s).1) : ∀ (l : List Nat) (s : Mt), (∀ j ∈ l, j < n) → MtOk n s → Keep n s (augL rec i l s).1
  | [], s, _, h => ⟨h, fun _ _ q => q⟩
  | j :: r, s, hl, h => by
    have hj := hl j List.mem_cons_self
    have hl2 : ∀ k ∈ r, k < n := fun k hk => hl k (List.mem_cons_of_mem _ hk)
    have ht : ∀ k, k < n → s.tried k = true → (s.try' j).tried k = true := fun k _ q => by
      show upd s.tried j true k = true; unfold upd; split
      · rfl
      · exact q
    unfold augL
    split
    · exact augL_keep hi hr r s hl2 h
    · split
      · exact ⟨h.try'.link hi hj, ht⟩
      · rename_i h1 h2
        have h3 := h.mate j hj
        have hk := hr (s.mate j).toNat (s.try' j) (by omega) h.try'
        split
        · exact ⟨hk.1.link hi hj, fun k a b => hk.2 k a (ht k a b)⟩
        · have h4 := augL_keep hi hr r _ hl2 hk.1
          exact ⟨h4.1, fun k a b => h4.2 k a (hk.2 k a (ht k a b))⟩
theorem aug_keep {E : Nat → Nat → Bool} {n : Nat} : ∀ (f i : Nat) (s : Mt), i < n → MtOk n s → Keep n s (aug E n f i s).1
  | 0, _, _s, _, h => ⟨h, fun _ _ q => q⟩
  | f + 1, _i, s, hi, h => augL_keep hi (fun k s hk hs => aug_keep f k s hk hs) _ s (fun _j hj => (mem_afterL.1 hj).1) h
/-- The state behind so many searches. -/
def runM (E : Nat → Nat → Bool) (n : Nat) : Nat → Mt
  | 0 => ⟨fun _ => false, fun _ => -1, fun _ => -1⟩
  | k + 1 => (aug E n (n + 1) k ⟨fun _ => false, (runM E n k).mate, (runM E n k).nx⟩).1
theorem runM_ok {E : Nat → Nat → Bool} {n : Nat} : ∀ {k : Nat}, k ≤ n → MtOk n (runM E n k)
  | 0, _ => ⟨fun _ _ => by show (-1 : Int) ≤ -1 ∧ (-1 : Int) < _; omega, fun _ _ => by show (-1 : Int) ≤ -1 ∧ (-1 : Int) < _; omega⟩
  | k + 1, h => (aug_keep (E := E) (n + 1) k ⟨fun _ => false, (runM E n k).mate, (runM E n k).nx⟩ (by omega) ⟨(runM_ok (k := k) (by omega)).mate, (runM_ok (k := k) (by omega)).nx⟩).1
/-- A chain, from one on. -/
def chainI (nx : Nat → Int) : Nat → Int → List Nat
  | 0, _ => []
  | f + 1, i => if i < 0 then [] else i.toNat :: chainI nx f (nx i.toNat)
/-- Who is reached. -/
structure Rs where
  here : Nat → Bool
  there : Nat → Bool
  ok : Bool
def rchL (rec : Nat → Rs → Rs) (mate : Nat → Int) : List Nat → Rs → Rs
  | [], s => s
  | j :: r, s => if s.there j = true then rchL rec mate r s
    else if mate j < 0 then ⟨s.here, upd s.there j true, false⟩
    else rchL rec mate r (rec (mate j).toNat ⟨s.here, upd s.there j true, s.ok⟩)
def rch (E : Nat → Nat → Bool) (n : Nat) (mate : Nat → Int) : Nat → Nat → Rs → Rs
  | 0, _, s => s
  | f + 1, i, s => if s.here i = true then s else rchL (rch E n mate f) mate (afterL E n i) ⟨upd s.here i true, s.there, s.ok⟩
end Go.Proofs.YteimjjpigohnhaaGreat
/- Who is behind one, by the program. -/
namespace Go.Proofs.YteimjjpigohnhaaGreat
open Go.Sl
variable {S : Nat → Prop} {w0 : World} {η : Heap}
theorem filter_enc {n k : Nat} {p : Nat → Bool} (hk : k < n) (hp : p k = true) : (((List.range n).filter p).map fun s : Nat => [Value.int .i64 (s : Int)])[((List.range k).filter p).length]? = some [.int .i64 (k : Int)] := by
 have e : List.range n = List.range k ++ (k :: List.range' (k + 1) (n - k - 1)) := by
  have e : n = k + (1 + (n - k - 1)) := by omega
  conv => lhs; rw [e, List.range_add]
  congr 1
  rw [show 1 + (n - k - 1) = (n - k - 1) + 1 by omega, List.range_succ_eq_map]
  simp [List.range'_eq_map_range, Nat.add_comm, Nat.add_left_comm, Function.comp_def]
 rw [e, List.filter_append, List.filter_cons, if_pos hp, List.map_append, List.getElem?_append_right (by simp)]
 simp
theorem filter_succ {k : Nat} {p : Nat → Bool} : ((List.range (k + 1)).filter p).length = ((List.range k).filter p).length + if p k = true then 1 else 0 := by
 rw [List.range_succ, List.filter_append, List.length_append]
 congr 1
 simp only [List.filter_cons, List.filter_nil]; split <;> simp

/-- One is at another one, or before it, and not the same one. -/
def EP (l : List Tm) (i j : Nat) : Bool := decide (i ≠ j) && tle (l.getD i []) (l.getD j [])
def AftC (a : Option Addr) (n c b2 b3 lk nb bb i : Nat) (η : Heap) : Prop := [(b2, Obj.cells #[ptr lk] 83 (0, 0))] ∈ η ∧ [(b3, Obj.cells #[.int .i64 (i : Int)] 3 (0, 0))] ∈ η ∧ [(lk, Obj.cells #[.slice a n c, .slice (some ⟨nb, 0, none⟩) n n, .slice (some ⟨bb, 0, none⟩) n n] 86 (0, 0))] ∈ η
theorem tx_getD {qs : List HL} {k : Nat} (h : k < qs.length) : (tx qs).getD k [] = (qs[k]).2.1 := by
 rw [List.getD_eq_getElem?_getD, List.getElem?_eq_getElem (by rw [tx_len]; exact h), tx_get h]; rfl
set_option maxHeartbeats 2000000 in
theorem after_iter {a : Option Addr} {c b2 b3 lk nb bb i w : Nat} {qs : List HL} (hx : LL S w0 [] a qs) (hl : qs.length < 2 ^ 63) (hi : i < qs.length) (hw : ∀ p ∈ qs, p.2.1.length = w) (hw4 : w ≤ 4) :
  Iter Tryz.prog 130 [] [ptr b2, ptr b3] ((afterL (EP (tx qs)) qs.length i).map fun s : Nat => [Value.int .i64 (s : Int)]) S w0 (AftC a qs.length c b2 b3 lk nb bb i) := by
 intro yl J X η hC hY h0
 unfold afterL at hY ⊢
 have hF := open_wide
 refine Rt.of (fn := Tryz.f130) Tryz.func130 rfl rfl ?_
 refine T.scope ?_
 refine T.seq ?_
 refine T.label ?_
 refine TQ.then_n ?_
 refine T.seq ?_
 refine T.region ?_
 refine TL.load hF rfl (own_mem (hC _ _ h0).1 rfl) rfl ?_
 refine TL.nilCheck hF rfl rfl ?_
 refine TL.fieldAddr hF rfl rfl ?_
 refine TL.fieldAddr hF rfl rfl ?_
 refine TL.load hF rfl (own_mem (hC _ _ h0).2.2 rfl) rfl ?_
 refine TL.len hF rfl rfl ?_
 refine TL.move hF rfl rfl ?_
 refine TL.nil ?_
 refine TQ.then_n ?_
 refine T.block ?_
 refine T.loop (ι := Nat × Heap) (fun i' => i'.1 ≤ qs.length ∧ J ((List.range i'.1).filter (fun j => EP (tx qs) i j)).length i'.2) (fun i => [(0, .func (.yield yl) #[] #[]), (1, ptr b2), (2, ptr b3), (10, .slice a qs.length c), (11, .int .i64 (qs.length : Int)), (12, .int .i64 (i.1 : Int))]) (fun i => i.2) (fun i => qs.length - i.1) (0, η) ⟨Nat.zero_le _, h0⟩ ⟨rfl, rfl, rfl, rfl, rfl, rfl, trivial⟩ rfl ?_
 rintro ⟨k, η1⟩ ⟨hk1, hJ⟩
 dsimp only at hk1 hJ
 obtain ⟨hc1, hc2, hc3⟩ := hC _ _ hJ
 refine T.seq ?_
 refine T.region ?_
 refine TL.bin hF rfl rfl rfl rfl ?_
 refine TL.nil ?_
 refine TQ.then_n ?_
 refine T.seq ?_
 first | refine T.cond_d rfl (fun ht13 => ?_) (fun ht13 => ?_) | refine T.cond _ rfl (fun ht13 => ?_) (fun ht13 => ?_)
 ·refine T.skip ?_
  refine TQ.then_n ?_
  refine T.seq ?_
  refine T.block ?_
  refine T.seq ?_
  refine T.region ?_
  refine TL.move hF rfl rfl ?_
  refine TL.indexAddr hF rfl rfl (hx.ad (i := k) (by omega)) (by omega) (by omega) rfl ?_
  refine TL.load hF rfl (hx.ro.at (i := k) (by omega)) rfl ?_
  refine TL.assign hF rfl rfl ?_
  refine TL.assign hF rfl rfl ?_
  refine TL.nil ?_
  refine TQ.then_n ?_
  refine T.seq ?_
  refine T.seq ?_
  have hkl : k < qs.length := by omega
  rcases hik : decide ((i : Int) = (k : Int)) with _ | _
  ·refine T.draw ?_
   refine DR.stepV [_] rfl [(2, _, none)] rfl rfl ⟨⟨rfl, by kernel_rfl⟩, trivial⟩ (fun ext => TL.load hF rfl (own_mem hc2 rfl) rfl TL.fin) ?_
   refine DR.stepV [_, _] rfl [(4, _, none)] rfl rfl ⟨⟨rfl, by kernel_rfl⟩, trivial⟩ (fun ext => TL.move hF rfl rfl TL.fin) ?_
   refine DR.stepV [_, _, _] rfl [(17, _, some 0), (18, _, some 1)] rfl rfl ⟨⟨rfl, rfl, rfl⟩, ⟨rfl, rfl, rfl⟩, trivial⟩ (fun ext => TL.bin hF rfl rfl rfl rfl TL.fin) ?_
   refine DR.stepV [_, _, _, _] rfl [(19, _, some 2)] rfl rfl ⟨⟨rfl, rfl, rfl⟩, trivial⟩ (fun ext => TL.move hF rfl rfl TL.fin) ?_
   refine DR.stepV [_, _, _, _, _] rfl [(1, _, none), (20, _, some 3)] rfl rfl ⟨⟨rfl, by kernel_rfl⟩, ⟨rfl, rfl, rfl⟩, trivial⟩ (fun ext => TL.on rfl rfl rfl (by rw [hik] <;> rfl) <| TL.load hF rfl (own_mem hc1 rfl) rfl TL.fin) ?_
   refine DR.stepV [_, _, _, _, _, _] rfl [(21, _, some 4), (20, _, some 3)] rfl rfl ⟨⟨rfl, rfl, rfl⟩, ⟨rfl, rfl, rfl⟩, trivial⟩ (fun ext => TL.on rfl rfl rfl (by rw [hik] <;> rfl) <| TL.nilCheck hF rfl rfl TL.fin) ?_
   refine DR.stepV [_, _, _, _, _, _, _] rfl [(22, _, some 5), (20, _, some 3)] rfl rfl ⟨⟨rfl, rfl, rfl⟩, ⟨rfl, rfl, rfl⟩, trivial⟩ (fun ext => TL.on rfl rfl rfl (by rw [hik] <;> rfl) <| TL.fieldAddr hF rfl rfl TL.fin) ?_
   refine DR.stepV [_, _, _, _, _, _, _, _] rfl [(23, _, some 6), (20, _, some 3)] rfl rfl ⟨⟨rfl, rfl, rfl⟩, ⟨rfl, rfl, rfl⟩, trivial⟩ (fun ext => TL.on rfl rfl rfl (by rw [hik] <;> rfl) <| TL.fieldAddr hF rfl rfl TL.fin) ?_
   refine DR.stepV [_, _, _, _, _, _, _, _, _] rfl [(24, _, some 7), (20, _, some 3)] rfl rfl ⟨⟨rfl, rfl, rfl⟩, ⟨rfl, rfl, rfl⟩, trivial⟩ (fun ext => TL.on rfl rfl rfl (by rw [hik] <;> rfl) <| TL.load hF rfl (own_mem hc3 rfl) rfl TL.fin) ?_
   refine DR.stepV [_, _, _, _, _, _, _, _, _, _] rfl [(2, _, none), (20, _, some 3)] rfl rfl ⟨⟨rfl, by kernel_rfl⟩, ⟨rfl, rfl, rfl⟩, trivial⟩ (fun ext => TL.on rfl rfl rfl (by rw [hik] <;> rfl) <| TL.load hF rfl (own_mem hc2 rfl) rfl TL.fin) ?_
   refine DR.stepV [_, _, _, _, _, _, _, _, _, _, _] rfl [(25, _, some 8), (26, _, some 9), (20, _, some 3)] rfl rfl ⟨⟨rfl, rfl, rfl⟩, ⟨rfl, rfl, rfl⟩, ⟨rfl, rfl, rfl⟩, trivial⟩ (fun ext => TL.on rfl rfl rfl (by rw [hik] <;> rfl) <| TL.indexAddr hF rfl rfl (hx.ad (i := i) (by omega)) (by omega) (by omega) rfl TL.fin) ?_
   refine DR.stepV [_, _, _, _, _, _, _, _, _, _, _, _] rfl [(27, _, some 10), (20, _, some 3)] rfl rfl ⟨⟨rfl, rfl, rfl⟩, ⟨rfl, rfl, rfl⟩, trivial⟩ (fun ext => TL.on rfl rfl rfl (by rw [hik] <;> rfl) <| TL.load hF rfl (hx.ro.at (i := i) (by omega)) rfl TL.fin) ?_
   refine DR.stepV [_, _, _, _, _, _, _, _, _, _, _, _, _] rfl [(5, _, none), (20, _, some 3)] rfl rfl ⟨⟨rfl, by kernel_rfl⟩, ⟨rfl, rfl, rfl⟩, trivial⟩ (fun ext => TL.on rfl rfl rfl (by rw [hik] <;> rfl) <| TL.move hF rfl rfl TL.fin) ?_
   refine DR.done [(29, _), (28, _), (27, _), (26, _), (25, _), (24, _), (23, _), (22, _), (21, _), (20, _), (19, _), (18, _), (17, _)] [_, _, _] mixed (by kernel_rfl) (by kernel_rfl) (by kernel_rfl) rfl rfl ?_
   refine TL.on rfl rfl rfl (by rw [hik] <;> rfl) ?_
   refine TL.callV hF (early_fn (hx.ro.it (i := i) hi) (hx.ro.it (i := k) hkl) ((hw _ (List.getElem_mem _)).trans (hw _ (List.getElem_mem _)).symm) (by rw [hw _ (List.getElem_mem _)]; omega)) rfl rfl ?_
   refine TL.on rfl rfl rfl (by rw [hik] <;> rfl) ?_
   refine TL.not hF rfl rfl ?_
   refine TL.pickF hF rfl (by rw [hik] <;> rfl) rfl rfl ?_
   refine TL.nil ?_
   refine TQ.then_n ?_
   refine T.cond _ rfl (fun ht32 => ?_) (fun ht32 => ?_)
   ·refine T.exit ?_
    refine TQ.then_x ?_
    refine TQ.block_x ?_
    refine TQ.then_n ?_
    refine T.region ?_
    refine TL.add hF rfl rfl (by omega) (by omega) rfl ?_
    refine TL.move hF rfl rfl ?_
    refine TL.nil ?_
    have hp : ¬ (fun j => EP (tx qs) i j) k = true := fun h => by
     have h2 : (decide (i ≠ k) && tle ((tx qs).getD i []) ((tx qs).getD k [])) = true := h
     rw [tx_getD hi, tx_getD hkl, Bool.and_eq_true] at h2
     rw [h2.2] at ht32; simp at ht32
    exact TQ.round (k + 1, η1) ⟨by dsimp only; omega, by dsimp only; rw [filter_succ, if_neg hp]; exact hJ⟩ (by dsimp only; omega) ⟨rfl, rfl, rfl, rfl, rfl, rfl, trivial⟩ rfl
   ·refine T.skip ?_
    refine TQ.then_n ?_
    refine T.seq ?_
    refine T.region ?_
    refine TL.move hF rfl rfl ?_
    refine TL.move hF rfl rfl ?_
    have hp : (fun j => EP (tx qs) i j) k = true := by
     show (decide (i ≠ k) && tle _ _) = true
     rw [tx_getD hi, tx_getD hkl, decide_eq_true (show i ≠ k by have := of_decide_eq_false hik; omega)]; simpa using ht32
    refine TL.yield rfl rfl rfl (hY _ _ _ (filter_enc (p := (fun j => EP (tx qs) i j)) hkl hp) hJ) rfl (fun yb η2 hyb => ?_)
    refine TL.not hF rfl rfl ?_
    refine TL.nil ?_
    refine TQ.then_n ?_
    refine T.cond _ rfl (fun ht36 => ?_) (fun ht36 => ?_)
    ·refine T.ret ?_
     refine TQ.block_r ?_
     refine TQ.then_r ?_
     refine TQ.then_r ?_
     refine TQ.block_r ?_
     refine TQ.scope_r ?_
     refine TQ.rets [] _ rfl rfl rfl ?_
     have hyf : yb = false := by simpa using ht36
     subst hyf
     exact .inr hyb
    ·refine T.skip ?_
     refine TQ.block_n ?_
     refine TQ.then_n ?_
     refine T.region ?_
     refine TL.add hF rfl rfl (by omega) (by omega) rfl ?_
     refine TL.move hF rfl rfl ?_
     refine TL.nil ?_
     have hyt : yb = true := by simpa using ht36
     subst hyt
     exact TQ.round (k + 1, η2) ⟨by dsimp only; omega, by dsimp only; rw [filter_succ, if_pos hp]; exact hyb⟩ (by dsimp only; omega) ⟨rfl, rfl, rfl, rfl, rfl, rfl, trivial⟩ rfl
  ·refine T.draw ?_
   refine DR.stepV [_] rfl [(2, _, none)] rfl rfl ⟨⟨rfl, by kernel_rfl⟩, trivial⟩ (fun ext => TL.load hF rfl (own_mem hc2 rfl) rfl TL.fin) ?_
   refine DR.stepV [_, _] rfl [(4, _, none)] rfl rfl ⟨⟨rfl, by kernel_rfl⟩, trivial⟩ (fun ext => TL.move hF rfl rfl TL.fin) ?_
   refine DR.stepV [_, _, _] rfl [(17, _, some 0), (18, _, some 1)] rfl rfl ⟨⟨rfl, rfl, rfl⟩, ⟨rfl, rfl, rfl⟩, trivial⟩ (fun ext => TL.bin hF rfl rfl rfl rfl TL.fin) ?_
   refine DR.stepV [_, _, _, _] rfl [(19, _, some 2)] rfl rfl ⟨⟨rfl, rfl, rfl⟩, trivial⟩ (fun ext => TL.move hF rfl rfl TL.fin) ?_
   refine DR.stepV [_, _, _, _, _] rfl [(1, _, none), (20, _, some 3)] rfl rfl ⟨⟨rfl, by kernel_rfl⟩, ⟨rfl, rfl, rfl⟩, trivial⟩ (fun ext => TL.off hF rfl rfl rfl (by rw [hik] <;> rfl) rfl TL.fin) ?_
   refine DR.stepV [_, _, _, _, _, _] rfl [(21, _, some 4), (20, _, some 3)] rfl rfl ⟨⟨rfl, rfl, rfl⟩, ⟨rfl, rfl, rfl⟩, trivial⟩ (fun ext => TL.off hF rfl rfl rfl (by rw [hik] <;> rfl) rfl TL.fin) ?_
   refine DR.stepV [_, _, _, _, _, _, _] rfl [(22, _, some 5), (20, _, some 3)] rfl rfl ⟨⟨rfl, rfl, rfl⟩, ⟨rfl, rfl, rfl⟩, trivial⟩ (fun ext => TL.off hF rfl rfl rfl (by rw [hik] <;> rfl) rfl TL.fin) ?_
   refine DR.stepV [_, _, _, _, _, _, _, _] rfl [(23, _, some 6), (20, _, some 3)] rfl rfl ⟨⟨rfl, rfl, rfl⟩, ⟨rfl, rfl, rfl⟩, trivial⟩ (fun ext => TL.off hF rfl rfl rfl (by rw [hik] <;> rfl) rfl TL.fin) ?_
   refine DR.stepV [_, _, _, _, _, _, _, _, _] rfl [(24, _, some 7), (20, _, some 3)] rfl rfl ⟨⟨rfl, rfl, rfl⟩, ⟨rfl, rfl, rfl⟩, trivial⟩ (fun ext => TL.off hF rfl rfl rfl (by rw [hik] <;> rfl) rfl TL.fin) ?_
   refine DR.stepV [_, _, _, _, _, _, _, _, _, _] rfl [(2, _, none), (20, _, some 3)] rfl rfl ⟨⟨rfl, by kernel_rfl⟩, ⟨rfl, rfl, rfl⟩, trivial⟩ (fun ext => TL.off hF rfl rfl rfl (by rw [hik] <;> rfl) rfl TL.fin) ?_
   refine DR.stepV [_, _, _, _, _, _, _, _, _, _, _] rfl [(25, _, some 8), (26, _, some 9), (20, _, some 3)] rfl rfl ⟨⟨rfl, rfl, rfl⟩, ⟨rfl, rfl, rfl⟩, ⟨rfl, rfl, rfl⟩, trivial⟩ (fun ext => TL.off hF rfl rfl rfl (by rw [hik] <;> rfl) rfl TL.fin) ?_
   refine DR.stepV [_, _, _, _, _, _, _, _, _, _, _, _] rfl [(27, _, some 10), (20, _, some 3)] rfl rfl ⟨⟨rfl, rfl, rfl⟩, ⟨rfl, rfl, rfl⟩, trivial⟩ (fun ext => TL.off hF rfl rfl rfl (by rw [hik] <;> rfl) rfl TL.fin) ?_
   refine DR.stepV [_, _, _, _, _, _, _, _, _, _, _, _, _] rfl [(5, _, none), (20, _, some 3)] rfl rfl ⟨⟨rfl, by kernel_rfl⟩, ⟨rfl, rfl, rfl⟩, trivial⟩ (fun ext => TL.off hF rfl rfl rfl (by rw [hik] <;> rfl) rfl TL.fin) ?_
   refine DR.done [(29, _), (28, _), (27, _), (26, _), (25, _), (24, _), (23, _), (22, _), (21, _), (20, _), (19, _), (18, _), (17, _)] [_, _, _] mixed (by kernel_rfl) (by kernel_rfl) (by kernel_rfl) rfl rfl ?_
   refine TL.off hF rfl rfl rfl (by rw [hik] <;> rfl) rfl ?_
   refine TL.off hF rfl rfl rfl (by rw [hik] <;> rfl) rfl ?_
   refine TL.pickT hF rfl (by rw [hik] <;> rfl) rfl rfl ?_
   refine TL.nil ?_
   refine TQ.then_n ?_
   refine T.cond_t rfl rfl ?_
   refine T.exit ?_
   refine TQ.then_x ?_
   refine TQ.block_x ?_
   refine TQ.then_n ?_
   refine T.region ?_
   refine TL.add hF rfl rfl (by omega) (by omega) rfl ?_
   refine TL.move hF rfl rfl ?_
   refine TL.nil ?_
   have hp : ¬ (fun j => EP (tx qs) i j) k = true := fun h => by
    have h2 : (decide (i ≠ k) && tle ((tx qs).getD i []) ((tx qs).getD k [])) = true := h
    rw [Bool.and_eq_true] at h2
    have h3 := of_decide_eq_true h2.1; have h4 := of_decide_eq_true hik; omega
   exact TQ.round (k + 1, η1) ⟨by dsimp only; omega, by dsimp only; rw [filter_succ, if_neg hp]; exact hJ⟩ (by dsimp only; omega) ⟨rfl, rfl, rfl, rfl, rfl, rfl, trivial⟩ rfl
 ·refine T.exit ?_
  refine TQ.then_x ?_
  refine TQ.then_x ?_
  refine TQ.block_x ?_
  refine TQ.scope_n ?_
  refine TQ.norm ?_
  refine TQ.rets [] _ rfl rfl rfl ?_
  have hkn : k = qs.length := by omega
  subst hkn
  left; simpa using hJ
set_option maxHeartbeats 2000000 in
theorem after_fn {lk i : Nat} :
  Rt Tryz.prog 91 [ptr lk, .int .i64 (i : Int)].toArray S w0 η (fun v η' => ∃ b2 b3, v = .func (.func 130) #[] #[ptr b2, ptr b3] ∧ η' = [(b3, Obj.cells #[.int .i64 (i : Int)] 3 (0, 0))] :: [(b2, Obj.cells #[ptr lk] 83 (0, 0))] :: η) := by
 have hF := open_wide
 refine Rt.of (fn := Tryz.f91) Tryz.func91 rfl rfl ?_
 refine T.seq ?_
 refine T.region ?_
 refine TL.box hF rfl rfl (fun b2 => ?_)
 refine TL.box hF rfl rfl (fun b3 => ?_)
 refine TL.assign hF rfl rfl ?_
 refine TL.nil ?_
 refine TQ.then_n ?_
 refine T.seq ?_
 refine T.region ?_
 refine TL.makeFunc hF rfl rfl rfl ?_
 refine TL.assign hF rfl rfl ?_
 refine TL.nil ?_
 refine TQ.then_n ?_
 refine T.ret ?_
 refine TQ.rets [4] _ rfl rfl rfl ?_
 exact ⟨b2, b3, rfl, rfl⟩
end Go.Proofs.YteimjjpigohnhaaGreat
/- One is paired by trying, by the program. -/
namespace Go.Proofs.YteimjjpigohnhaaGreat
open Go.Sl
variable {S : Nat → Prop} {w0 : World} {η : Heap}
theorem intC_setU {n k j : Nat} {f : Nat → Int} {v : Int} (hk : k = j) : (intC n f).toArray.setIfInBounds k (.int .i64 v) = (intC n (upd f j v)).toArray := by subst hk; exact intC_set (fun _ _ => rfl)
theorem rowC_setU {n k j : Nat} {f : Nat → Bool} {v : Bool} (hk : k = j) : (rowC n f).toArray.setIfInBounds k (.bool v) = (rowC n (upd f j v)).toArray := by subst hk; exact rowC_set (fun _ _ => rfl)
/-- The blocks of a search: the links, who was tried, the search itself. -/
structure LC where
 a : Option Addr
 n : Nat
 c : Nat
 kb : Nat
 tb : Nat
 fb : Nat
 lk : Nat
 nb : Nat
 bb : Nat
 tr : Nat
def lkV (q : LC) : List Value := [.slice q.a q.n q.c, .slice (some ⟨q.nb, 0, none⟩) q.n q.n, .slice (some ⟨q.bb, 0, none⟩) q.n q.n]
theorem iseg_updU {b n k j : Nat} {f : Nat → Int} {v : Int} (hk : k = j) : ([(b, Obj.cells ((intC n f).toArray.setIfInBounds k (.int .i64 v)) 3 (0, 0))] : Seg) = iseg b n (upd f j v) := by rw [intC_setU hk]
theorem bseg_updU {b n k j : Nat} {f : Nat → Bool} {v : Bool} (hk : k = j) : ([(b, Obj.cells ((rowC n f).toArray.setIfInBounds k (.bool v)) 4 (0, 0))] : Seg) = bseg b n (upd f j v) := by rw [rowC_setU hk]
theorem Keep.try_ {n j : Nat} {s s1 : Mt} (h : Keep n s s1) : Keep n s (s1.try' j) := ⟨h.1.try', fun k hk hs => by
 show upd s1.tried j true k = true
 unfold upd; split
 ·rfl
 ·exact h.2 k hk hs⟩
theorem Keep.trans {n : Nat} {s s1 s2 : Mt} (h : Keep n s s1) (h2 : Keep n s1 s2) : Keep n s s2 := ⟨h2.1, fun k hk hs => h2.2 k hk (h.2 k hk hs)⟩
def coreH (q : LC) (s : Mt) (η : Heap) : Heap := [(q.kb, Obj.cells #[ptr q.lk] 83 (0, 0))] :: [(q.tb, Obj.cells #[.slice (some ⟨q.tr, 0, none⟩) q.n q.n] 87 (0, 0))] :: [(q.fb, Obj.cells #[.func (.func 129) #[] #[ptr q.kb, ptr q.tb, ptr q.fb]] 118 (0, 0))] :: [(q.lk, Obj.cells (lkV q).toArray 86 (0, 0))] :: iseg q.nb q.n s.nx :: iseg q.bb q.n s.mate :: bseg q.tr q.n s.tried :: η
set_option maxHeartbeats 4000000 in
theorem try_fn {qs : List HL} {q : LC} {w : Nat} (hx : LL S w0 [] q.a qs) (hqn : q.n = qs.length) (hl : qs.length < 2 ^ 63) (hw : ∀ p ∈ qs, p.2.1.length = w) (hw4 : w ≤ 4) : ∀ (fu : Nat) {i : Nat} {s : Mt} {η : Heap}, i < q.n → MtOk q.n s → unt q.n s.tried < fu →
  Rt Tryz.prog 129 [.int .i64 (i : Int), ptr q.kb, ptr q.tb, ptr q.fb].toArray S w0 (coreH q s η) (fun v η' => v = .bool (aug (EP (tx qs)) q.n fu i s).2 ∧ η' = coreH q (aug (EP (tx qs)) q.n fu i s).1 η) := by
 intro fu
 induction fu with
 | zero => intro i s η _ _ h; omega
 | succ fu ih =>
 intro i s η hi hok hun0
 have hF := open_wide
 refine Rt.ofL (fn := Tryz.f129) Tryz.func129 rfl rfl ?_
 refine T.seq ?_
 refine T.region ?_
 refine TL.box hF rfl rfl (fun b4 => ?_)
 refine TL.alloc hF rfl (fun b5 => ?_)
 refine TL.nil ?_
 refine TQ.then_n ?_
 refine T.seq ?_
 refine T.seq ?_
 refine T.region ?_
 refine TL.load hF rfl (own_mem (cs := #[ptr q.lk]) (e := 83) (fz := (0, 0)) (by simp [coreH]) rfl) rfl ?_
 refine TL.load hF rfl (by first | exact At.own' (i := 0) rfl rfl | exact At.own' (i := 1) rfl rfl | exact At.own' (i := 2) rfl rfl | exact At.own' (i := 3) rfl rfl | exact At.own' (i := 4) rfl rfl | exact At.own' (i := 5) rfl rfl | exact At.own' (i := 6) rfl rfl | exact At.own' (i := 7) rfl rfl | exact At.own' (i := 8) rfl rfl | exact At.own' (i := 9) rfl rfl | exact At.own' (i := 10) rfl rfl | exact At.own' (i := 11) rfl rfl | exact At.own' (i := 12) rfl rfl) rfl ?_
 refine TL.call hF after_fn rfl rfl ?_
 rintro _ _ ⟨c2, c3, rfl, rfl⟩
 refine TL.nil ?_
 refine TQ.then_n ?_
 refine T.block ?_
 refine T.pick [4, 5, 6, 7, 8, 9, 10, 0, 1, 2, 3] [_, _, _, _, _, _, _, _, _, _, _] rfl rfl rfl ?_
 refine T.rangeFunc (fst := []) (cap := [ptr c2, ptr c3]) rfl (after_iter (c := q.c) (b2 := c2) (b3 := c3) (lk := q.lk) (nb := q.nb) (bb := q.bb) (i := i) hx hl (hqn ▸ hi) hw hw4) (by
   intro e he; obtain ⟨y, _, rfl⟩ := List.mem_map.1 he; rfl) (by simp) (fun k η1 => ∃ s1, η1 = [(q.kb, Obj.cells #[ptr q.lk] 83 (0, 0))] :: [(q.tb, Obj.cells #[.slice (some ⟨q.tr, 0, none⟩) q.n q.n] 87 (0, 0))] :: [(q.fb, Obj.cells #[.func (.func 129) #[] #[ptr q.kb, ptr q.tb, ptr q.fb]] 118 (0, 0))] :: [(q.lk, Obj.cells (lkV q).toArray 86 (0, 0))] :: iseg q.nb q.n s1.nx :: iseg q.bb q.n s1.mate :: bseg q.tr q.n s1.tried :: [(c3, Obj.cells #[.int .i64 (i : Int)] 3 (0, 0))] :: [(c2, Obj.cells #[ptr q.lk] 83 (0, 0))] :: [(b5, Obj.cells #[.bool false] 4 (0, 0))] :: [(b4, Obj.cells #[.int .i64 (i : Int)] 3 (0, 0))] :: η ∧ Keep q.n s s1 ∧ augL (aug (EP (tx qs)) q.n fu) i (afterL (EP (tx qs)) q.n i) s = augL (aug (EP (tx qs)) q.n fu) i ((afterL (EP (tx qs)) q.n i).drop k) s1) (fun cd η1 => cd = .ret ∧ ∃ s1, η1 = [(q.kb, Obj.cells #[ptr q.lk] 83 (0, 0))] :: [(q.tb, Obj.cells #[.slice (some ⟨q.tr, 0, none⟩) q.n q.n] 87 (0, 0))] :: [(q.fb, Obj.cells #[.func (.func 129) #[] #[ptr q.kb, ptr q.tb, ptr q.fb]] 118 (0, 0))] :: [(q.lk, Obj.cells (lkV q).toArray 86 (0, 0))] :: iseg q.nb q.n s1.nx :: iseg q.bb q.n s1.mate :: bseg q.tr q.n s1.tried :: [(c3, Obj.cells #[.int .i64 (i : Int)] 3 (0, 0))] :: [(c2, Obj.cells #[ptr q.lk] 83 (0, 0))] :: [(b5, Obj.cells #[.bool true] 4 (0, 0))] :: [(b4, Obj.cells #[.int .i64 (i : Int)] 3 (0, 0))] :: η ∧ augL (aug (EP (tx qs)) q.n fu) i (afterL (EP (tx qs)) q.n i) s = (s1, true)) ⟨s, rfl, ⟨hok, fun _ _ h => h⟩, rfl⟩ ?_ ?_ ?_ ?_
 ·rintro k _ tl ⟨s1, rfl, _⟩
  rw [← hqn]
  exact ⟨by simp, by simp, by simp [lkV]⟩
 ·rintro yl tl tl' k e _ hie ⟨s1, rfl, hkp, hag⟩
  have hF := open_round yl
  rw [← hqn] at hie
  have hil : k < (afterL (EP (tx qs)) q.n i).length := by have := (List.getElem?_eq_some_iff.1 hie).1; rw [List.length_map] at this; exact this
  have hee : e = [.int .i64 (((afterL (EP (tx qs)) q.n i)[k] : Nat) : Int)] := by
   have := (List.getElem?_eq_some_iff.1 hie).2; rw [← this, List.getElem_map]
  subst hee
  have hjm := mem_afterL.1 (List.getElem_mem hil)
  rw [List.drop_eq_getElem_cons hil] at hag
  generalize (afterL (EP (tx qs)) q.n i)[k] = j at hjm hag ⊢
  obtain ⟨hjn, _⟩ := hjm
  refine T.region ?_
  refine TL.assign hF rfl rfl ?_
  refine TL.nil ?_
  refine TQ.swapT _ rfl ?_
  refine T.block ?_
  refine T.seq ?_
  refine T.seq ?_
  refine T.region ?_
  refine TL.load hF rfl (own_mem (cs := #[.slice (some ⟨q.tr, 0, none⟩) q.n q.n]) (e := 87) (fz := (0, 0)) (by simp) rfl) rfl ?_
  refine TL.move hF rfl rfl ?_
  refine TL.indexAddr hF rfl rfl ⟨_, rfl, rfl⟩ (by omega) (by omega) rfl ?_
  refine TL.load hF rfl (bseg_at (f := s1.tried) (n := q.n) (b := q.tr) (j := j) (by simp) hjn) rfl ?_
  refine TL.nil ?_
  refine TQ.then_n ?_
  refine T.cond _ rfl (fun ht14 => ?_) (fun ht14 => ?_)
  ·refine T.exit ?_
   refine TQ.then_x ?_
   refine TQ.block_x ?_
   refine TQ.rq_n ([(q.kb, Obj.cells #[ptr q.lk] 83 (0, 0))] :: [(q.tb, Obj.cells #[.slice (some ⟨q.tr, 0, none⟩) q.n q.n] 87 (0, 0))] :: [(q.fb, Obj.cells #[.func (.func 129) #[] #[ptr q.kb, ptr q.tb, ptr q.fb]] 118 (0, 0))] :: [(q.lk, Obj.cells (lkV q).toArray 86 (0, 0))] :: iseg q.nb q.n s1.nx :: iseg q.bb q.n s1.mate :: bseg q.tr q.n s1.tried :: [(c3, Obj.cells #[.int .i64 (i : Int)] 3 (0, 0))] :: [(c2, Obj.cells #[ptr q.lk] 83 (0, 0))] :: [(b5, Obj.cells #[.bool false] 4 (0, 0))] :: [(b4, Obj.cells #[.int .i64 (i : Int)] 3 (0, 0))] :: η) rfl ⟨s1, rfl, hkp, ?_⟩
   rw [hag]
   simp only [augL]
   rw [if_pos ht14]
  ·refine T.skip ?_
   refine TQ.then_n ?_
   refine T.seq ?_
   refine T.region ?_
   refine TL.load hF rfl (own_mem (cs := #[.slice (some ⟨q.tr, 0, none⟩) q.n q.n]) (e := 87) (fz := (0, 0)) (by simp) rfl) rfl ?_
   refine TL.move hF rfl rfl ?_
   refine TL.indexAddr hF rfl rfl ⟨_, rfl, rfl⟩ (by omega) (by omega) rfl ?_
   refine TL.storeI hF 6 rfl rfl rfl rfl (by simp [rowC_len]; omega) ?_
   refine TL.nil ?_
   refine TQ.then_n ?_
   refine T.seq ?_
   refine T.heap (η' := [(q.kb, Obj.cells #[ptr q.lk] 83 (0, 0))] :: [(q.tb, Obj.cells #[.slice (some ⟨q.tr, 0, none⟩) q.n q.n] 87 (0, 0))] :: [(q.fb, Obj.cells #[.func (.func 129) #[] #[ptr q.kb, ptr q.tb, ptr q.fb]] 118 (0, 0))] :: [(q.lk, Obj.cells (lkV q).toArray 86 (0, 0))] :: iseg q.nb q.n (s1.try' j).nx :: iseg q.bb q.n (s1.try' j).mate :: bseg q.tr q.n (s1.try' j).tried :: [(c3, Obj.cells #[.int .i64 (i : Int)] 3 (0, 0))] :: [(c2, Obj.cells #[ptr q.lk] 83 (0, 0))] :: [(b5, Obj.cells #[.bool false] 4 (0, 0))] :: [(b4, Obj.cells #[.int .i64 (i : Int)] 3 (0, 0))] :: η ++ tl') (congrArg (fun z : Seg => [(q.kb, Obj.cells #[ptr q.lk] 83 (0, 0))] :: [(q.tb, Obj.cells #[.slice (some ⟨q.tr, 0, none⟩) q.n q.n] 87 (0, 0))] :: [(q.fb, Obj.cells #[.func (.func 129) #[] #[ptr q.kb, ptr q.tb, ptr q.fb]] 118 (0, 0))] :: [(q.lk, Obj.cells (lkV q).toArray 86 (0, 0))] :: iseg q.nb q.n s1.nx :: iseg q.bb q.n s1.mate :: z :: ([(c3, Obj.cells #[.int .i64 (i : Int)] 3 (0, 0))] :: [(c2, Obj.cells #[ptr q.lk] 83 (0, 0))] :: [(b5, Obj.cells #[.bool false] 4 (0, 0))] :: [(b4, Obj.cells #[.int .i64 (i : Int)] 3 (0, 0))] :: η ++ tl')) (bseg_updU (b := q.tr) (n := q.n) (f := s1.tried) (v := true) (k := 0 + ((j : Nat) : Int).toNat * 1) (j := j) (by simp))) ?_
   have htf : s1.tried j = false := by simpa using ht14
   have hok1 : MtOk q.n (s1.try' j) := hkp.1.try'
   have hmj := hok1.mate j hjn
   have hun : unt q.n (s1.try' j).tried < unt q.n s1.tried := unt_upd hjn htf
   have hun2 : unt q.n s1.tried ≤ unt q.n s.tried := unt_mono hkp.2
   rcases hmt : decide ((s1.try' j).mate j < 0) with _ | _
   ·refine T.drawH 17 mixed ?_
    refine DH.read (i := 0) [(1, _, none)] rfl rfl rfl rfl ⟨⟨rfl, by kernel_rfl⟩, trivial⟩ (fun ext => TL.load hF rfl (own_mem (cs := #[ptr q.lk]) (e := 83) (fz := (0, 0)) (by simp) rfl) rfl TL.fin) ?_
    refine DH.pure (i := 1) [(18, _, some 0)] rfl rfl rfl rfl ⟨⟨rfl, rfl, rfl⟩, trivial⟩ (fun _ ext => TL.nilCheck hF rfl rfl TL.fin) ?_
    refine DH.pure (i := 2) [(19, _, some 1)] rfl rfl rfl rfl ⟨⟨rfl, rfl, rfl⟩, trivial⟩ (fun _ ext => TL.fieldAddr hF rfl rfl TL.fin) ?_
    refine DH.read (i := 3) [(20, _, some 2)] rfl rfl rfl rfl ⟨⟨rfl, rfl, rfl⟩, trivial⟩ (fun ext => TL.load hF rfl (own_mem (cs := (lkV q).toArray) (e := 86) (fz := (0, 0)) (by simp) rfl) rfl TL.fin) ?_
    refine DH.pure (i := 4) [(6, _, none)] rfl rfl rfl rfl ⟨⟨rfl, by kernel_rfl⟩, trivial⟩ (fun _ ext => TL.move hF rfl rfl TL.fin) ?_
    refine DH.pure (i := 5) [(21, _, some 3), (22, _, some 4)] rfl rfl rfl rfl ⟨⟨rfl, rfl, rfl⟩, ⟨rfl, rfl, rfl⟩, trivial⟩ (fun _ ext => TL.indexAddr hF rfl rfl ⟨_, rfl, rfl⟩ (by omega) (by omega) rfl TL.fin) ?_
    refine DH.read (i := 6) [(23, _, some 5)] rfl rfl rfl rfl ⟨⟨rfl, rfl, rfl⟩, trivial⟩ (fun ext => TL.load hF rfl (iseg_at (f := (s1.try' j).mate) (n := q.n) (b := q.bb) (j := j) (by simp) hjn) rfl TL.fin) ?_
    refine DH.pure (i := 7) [(24, _, some 6)] rfl rfl rfl rfl ⟨⟨rfl, rfl, rfl⟩, trivial⟩ (fun _ ext => TL.bin hF rfl rfl rfl rfl TL.fin) ?_
    refine DH.pure (i := 8) [(25, _, some 7)] rfl rfl rfl rfl ⟨⟨rfl, rfl, rfl⟩, trivial⟩ (fun _ ext => TL.move hF rfl rfl TL.fin) ?_
    refine DH.read (i := 9) [(3, _, none), (26, _, some 8)] rfl rfl rfl rfl ⟨⟨rfl, by kernel_rfl⟩, ⟨rfl, rfl, rfl⟩, trivial⟩ (fun ext => TL.on rfl rfl rfl (by rw [hmt] <;> rfl) <| TL.load hF rfl (own_mem (cs := #[.func (.func 129) #[] #[ptr q.kb, ptr q.tb, ptr q.fb]]) (e := 118) (fz := (0, 0)) (by simp) rfl) rfl TL.fin) ?_
    refine DH.read (i := 10) [(1, _, none), (26, _, some 8)] rfl rfl rfl rfl ⟨⟨rfl, by kernel_rfl⟩, ⟨rfl, rfl, rfl⟩, trivial⟩ (fun ext => TL.on rfl rfl rfl (by rw [hmt] <;> rfl) <| TL.load hF rfl (own_mem (cs := #[ptr q.lk]) (e := 83) (fz := (0, 0)) (by simp) rfl) rfl TL.fin) ?_
    refine DH.pure (i := 11) [(28, _, some 10), (26, _, some 8)] rfl rfl rfl rfl ⟨⟨rfl, rfl, rfl⟩, ⟨rfl, rfl, rfl⟩, trivial⟩ (fun _ ext => TL.on rfl rfl rfl (by rw [hmt] <;> rfl) <| TL.nilCheck hF rfl rfl TL.fin) ?_
    refine DH.pure (i := 12) [(29, _, some 11), (26, _, some 8)] rfl rfl rfl rfl ⟨⟨rfl, rfl, rfl⟩, ⟨rfl, rfl, rfl⟩, trivial⟩ (fun _ ext => TL.on rfl rfl rfl (by rw [hmt] <;> rfl) <| TL.fieldAddr hF rfl rfl TL.fin) ?_
    refine DH.read (i := 13) [(30, _, some 12), (26, _, some 8)] rfl rfl rfl rfl ⟨⟨rfl, rfl, rfl⟩, ⟨rfl, rfl, rfl⟩, trivial⟩ (fun ext => TL.on rfl rfl rfl (by rw [hmt] <;> rfl) <| TL.load hF rfl (own_mem (cs := (lkV q).toArray) (e := 86) (fz := (0, 0)) (by simp) rfl) rfl TL.fin) ?_
    refine DH.pure (i := 14) [(6, _, none), (26, _, some 8)] rfl rfl rfl rfl ⟨⟨rfl, by kernel_rfl⟩, ⟨rfl, rfl, rfl⟩, trivial⟩ (fun _ ext => TL.on rfl rfl rfl (by rw [hmt] <;> rfl) <| TL.move hF rfl rfl TL.fin) ?_
    refine DH.pure (i := 15) [(31, _, some 13), (32, _, some 14), (26, _, some 8)] rfl rfl rfl rfl ⟨⟨rfl, rfl, rfl⟩, ⟨rfl, rfl, rfl⟩, ⟨rfl, rfl, rfl⟩, trivial⟩ (fun _ ext => TL.on rfl rfl rfl (by rw [hmt] <;> rfl) <| TL.indexAddr hF rfl rfl ⟨_, rfl, rfl⟩ (by omega) (by omega) rfl TL.fin) ?_
    refine DH.read (i := 16) [(33, _, some 15), (26, _, some 8)] rfl rfl rfl rfl ⟨⟨rfl, rfl, rfl⟩, ⟨rfl, rfl, rfl⟩, trivial⟩ (fun ext => TL.on rfl rfl rfl (by rw [hmt] <;> rfl) <| TL.load hF rfl (iseg_at (f := (s1.try' j).mate) (n := q.n) (b := q.bb) (j := j) (by simp) hjn) rfl TL.fin) ?_
    refine DH.done [(34, _), (33, _), (32, _), (31, _), (30, _), (29, _), (28, _), (27, _), (26, _), (25, _), (24, _), (23, _), (22, _), (21, _), (20, _), (19, _), (18, _)] [_, _] (by kernel_rfl) (by kernel_rfl) (by kernel_rfl) (by kernel_rfl) rfl rfl ?_
    refine TL.on rfl rfl rfl (by rw [hmt] <;> rfl) ?_
    have hnn : ¬ (s1.try' j).mate j < 0 := of_decide_eq_false hmt
    have hrec := ih (η := ([(c3, Obj.cells #[.int .i64 (i : Int)] 3 (0, 0))] :: [(c2, Obj.cells #[ptr q.lk] 83 (0, 0))] :: [(b5, Obj.cells #[.bool false] 4 (0, 0))] :: [(b4, Obj.cells #[.int .i64 (i : Int)] 3 (0, 0))] :: (η ++ tl'))) (i := ((s1.try' j).mate j).toNat) (s := s1.try' j) (by omega) hok1 (by omega)
    rw [Int.toNat_of_nonneg (show 0 ≤ (s1.try' j).mate j by omega)] at hrec
    refine TL.call hF hrec rfl rfl ?_
    rintro _ _ ⟨rfl, rfl⟩
    refine TL.pickF hF rfl (by rw [hmt] <;> rfl) rfl rfl ?_
    refine TL.nil ?_
    refine TQ.then_n ?_
    refine T.cond _ rfl (fun ht36 => ?_) (fun ht36 => ?_)
    ·refine T.seq ?_
     refine T.drawH 14 mixed ?_
     refine DH.read (i := 0) [(1, _, none)] rfl rfl rfl rfl ⟨⟨rfl, by kernel_rfl⟩, trivial⟩ (fun ext => TL.load hF rfl (own_mem (cs := #[ptr q.lk]) (e := 83) (fz := (0, 0)) (by simp [coreH]) rfl) rfl TL.fin) ?_
     refine DH.pure (i := 1) [(37, _, some 0)] rfl rfl rfl rfl ⟨⟨rfl, rfl, rfl⟩, trivial⟩ (fun _ ext => TL.nilCheck hF rfl rfl TL.fin) ?_
     refine DH.pure (i := 2) [(38, _, some 1)] rfl rfl rfl rfl ⟨⟨rfl, rfl, rfl⟩, trivial⟩ (fun _ ext => TL.fieldAddr hF rfl rfl TL.fin) ?_
     refine DH.read (i := 3) [(39, _, some 2)] rfl rfl rfl rfl ⟨⟨rfl, rfl, rfl⟩, trivial⟩ (fun ext => TL.load hF rfl (own_mem (cs := (lkV q).toArray) (e := 86) (fz := (0, 0)) (by simp [coreH]) rfl) rfl TL.fin) ?_
     refine DH.read (i := 4) [(4, _, none)] rfl rfl rfl rfl ⟨⟨rfl, by kernel_rfl⟩, trivial⟩ (fun ext => TL.load hF rfl (own_mem (cs := #[.int .i64 (i : Int)]) (e := 3) (fz := (0, 0)) (by simp [coreH]) rfl) rfl TL.fin) ?_
     refine DH.read (i := 5) [(1, _, none)] rfl rfl rfl rfl ⟨⟨rfl, by kernel_rfl⟩, trivial⟩ (fun ext => TL.load hF rfl (own_mem (cs := #[ptr q.lk]) (e := 83) (fz := (0, 0)) (by simp [coreH]) rfl) rfl TL.fin) ?_
     refine DH.pure (i := 6) [(42, _, some 5)] rfl rfl rfl rfl ⟨⟨rfl, rfl, rfl⟩, trivial⟩ (fun _ ext => TL.nilCheck hF rfl rfl TL.fin) ?_
     refine DH.pure (i := 7) [(43, _, some 6)] rfl rfl rfl rfl ⟨⟨rfl, rfl, rfl⟩, trivial⟩ (fun _ ext => TL.fieldAddr hF rfl rfl TL.fin) ?_
     refine DH.read (i := 8) [(44, _, some 7)] rfl rfl rfl rfl ⟨⟨rfl, rfl, rfl⟩, trivial⟩ (fun ext => TL.load hF rfl (own_mem (cs := (lkV q).toArray) (e := 86) (fz := (0, 0)) (by simp [coreH]) rfl) rfl TL.fin) ?_
     refine DH.pure (i := 9) [(6, _, none)] rfl rfl rfl rfl ⟨⟨rfl, by kernel_rfl⟩, trivial⟩ (fun _ ext => TL.move hF rfl rfl TL.fin) ?_
     refine DH.pure (i := 10) [(6, _, none)] rfl rfl rfl rfl ⟨⟨rfl, by kernel_rfl⟩, trivial⟩ (fun _ ext => TL.move hF rfl rfl TL.fin) ?_
     refine DH.read (i := 11) [(4, _, none)] rfl rfl rfl rfl ⟨⟨rfl, by kernel_rfl⟩, trivial⟩ (fun ext => TL.load hF rfl (own_mem (cs := #[.int .i64 (i : Int)]) (e := 3) (fz := (0, 0)) (by simp [coreH]) rfl) rfl TL.fin) ?_
     refine DH.pure (i := 12) [(40, _, some 3), (41, _, some 4)] rfl rfl rfl rfl ⟨⟨rfl, rfl, rfl⟩, ⟨rfl, rfl, rfl⟩, trivial⟩ (fun _ ext => TL.indexAddr hF rfl rfl ⟨_, rfl, rfl⟩ (by omega) (by omega) rfl TL.fin) ?_
     refine DH.k1 (by kernel_rfl) (by kernel_rfl) (by kernel_rfl) (by kernel_rfl) (HBK.mk (h := 13) [11] [(49, _, some 12), (47, _, some 10)] rfl rfl rfl ⟨⟨rfl, rfl, rfl⟩, ⟨rfl, rfl, rfl⟩, trivial⟩ (by kernel_rfl) (fun ext => ?_))
     refine TL.storeI hF 4 rfl rfl rfl rfl (by simp [intC_len]; omega) ?_
     refine TL.finKN ⟨⟨_, rfl, _, _, [(4, _, none)], rfl, rfl, ⟨⟨rfl, by kernel_rfl⟩, trivial⟩, fun ext => TL.load hF rfl (own_mem (cs := #[.int .i64 (i : Int)]) (e := 3) (fz := (0, 0)) (by simp [coreH]) rfl) rfl TL.fin⟩, trivial⟩ ?_
     refine DH.done [(49, _), (48, _), (47, _), (46, _), (45, _), (44, _), (43, _), (42, _), (41, _), (40, _), (39, _), (38, _), (37, _)] [_, _] (by kernel_rfl) (by kernel_rfl) (by kernel_rfl) (by kernel_rfl) rfl rfl ?_
     refine TL.indexAddr hF rfl rfl ⟨_, rfl, rfl⟩ (by omega) (by omega) rfl ?_
     refine TL.storeI hF 5 rfl rfl rfl rfl (by simp [intC_len]; omega) ?_
     refine TL.nil ?_
     refine TQ.then_n ?_
     refine T.seq ?_
     refine T.region ?_
     refine TL.storeI hF 9 rfl rfl rfl rfl (by simp) ?_
     refine TL.nil ?_
     refine TQ.then_n ?_
     refine T.ret ?_
     refine TQ.block_r ?_
     refine TQ.rq_r ([(q.kb, Obj.cells #[ptr q.lk] 83 (0, 0))] :: [(q.tb, Obj.cells #[.slice (some ⟨q.tr, 0, none⟩) q.n q.n] 87 (0, 0))] :: [(q.fb, Obj.cells #[.func (.func 129) #[] #[ptr q.kb, ptr q.tb, ptr q.fb]] 118 (0, 0))] :: [(q.lk, Obj.cells (lkV q).toArray 86 (0, 0))] :: iseg q.nb q.n (((aug (EP (tx qs)) q.n fu) ((s1.try' j).mate j).toNat (s1.try' j)).1.link i j).nx :: iseg q.bb q.n (((aug (EP (tx qs)) q.n fu) ((s1.try' j).mate j).toNat (s1.try' j)).1.link i j).mate :: bseg q.tr q.n (((aug (EP (tx qs)) q.n fu) ((s1.try' j).mate j).toNat (s1.try' j)).1.link i j).tried :: [(c3, Obj.cells #[.int .i64 (i : Int)] 3 (0, 0))] :: [(c2, Obj.cells #[ptr q.lk] 83 (0, 0))] :: [(b5, Obj.cells #[.bool true] 4 (0, 0))] :: [(b4, Obj.cells #[.int .i64 (i : Int)] 3 (0, 0))] :: η) (congr (congrArg (fun z1 z2 : Seg => [(q.kb, Obj.cells #[ptr q.lk] 83 (0, 0))] :: [(q.tb, Obj.cells #[.slice (some ⟨q.tr, 0, none⟩) q.n q.n] 87 (0, 0))] :: [(q.fb, Obj.cells #[.func (.func 129) #[] #[ptr q.kb, ptr q.tb, ptr q.fb]] 118 (0, 0))] :: [(q.lk, Obj.cells (lkV q).toArray 86 (0, 0))] :: z1 :: z2 :: bseg q.tr q.n ((aug (EP (tx qs)) q.n fu) ((s1.try' j).mate j).toNat (s1.try' j)).1.tried :: ([(c3, Obj.cells #[.int .i64 (i : Int)] 3 (0, 0))] :: [(c2, Obj.cells #[ptr q.lk] 83 (0, 0))] :: [(b5, Obj.cells #[.bool true] 4 (0, 0))] :: [(b4, Obj.cells #[.int .i64 (i : Int)] 3 (0, 0))] :: η ++ tl')) (iseg_updU (b := q.nb) (n := q.n) (f := ((aug (EP (tx qs)) q.n fu) ((s1.try' j).mate j).toNat (s1.try' j)).1.nx) (v := (j : Int)) (k := 0 + ((i : Nat) : Int).toNat * 1) (j := i) (by simp))) (iseg_updU (b := q.bb) (n := q.n) (f := ((aug (EP (tx qs)) q.n fu) ((s1.try' j).mate j).toNat (s1.try' j)).1.mate) (v := (i : Int)) (k := 0 + ((j : Nat) : Int).toNat * 1) (j := j) (by simp))) ⟨rfl, ((aug (EP (tx qs)) q.n fu) ((s1.try' j).mate j).toNat (s1.try' j)).1.link i j, rfl, ?_⟩
     rw [hag]
     simp only [augL]
     rw [if_neg (by rw [htf]; decide), if_neg (show ¬ s1.mate j < 0 from hnn)]
     exact if_pos ht36
    ·refine T.skip ?_
     refine TQ.block_n ?_
     refine TQ.rq_n ([(q.kb, Obj.cells #[ptr q.lk] 83 (0, 0))] :: [(q.tb, Obj.cells #[.slice (some ⟨q.tr, 0, none⟩) q.n q.n] 87 (0, 0))] :: [(q.fb, Obj.cells #[.func (.func 129) #[] #[ptr q.kb, ptr q.tb, ptr q.fb]] 118 (0, 0))] :: [(q.lk, Obj.cells (lkV q).toArray 86 (0, 0))] :: iseg q.nb q.n ((aug (EP (tx qs)) q.n fu) ((s1.try' j).mate j).toNat (s1.try' j)).1.nx :: iseg q.bb q.n ((aug (EP (tx qs)) q.n fu) ((s1.try' j).mate j).toNat (s1.try' j)).1.mate :: bseg q.tr q.n ((aug (EP (tx qs)) q.n fu) ((s1.try' j).mate j).toNat (s1.try' j)).1.tried :: [(c3, Obj.cells #[.int .i64 (i : Int)] 3 (0, 0))] :: [(c2, Obj.cells #[ptr q.lk] 83 (0, 0))] :: [(b5, Obj.cells #[.bool false] 4 (0, 0))] :: [(b4, Obj.cells #[.int .i64 (i : Int)] 3 (0, 0))] :: η) rfl ⟨((aug (EP (tx qs)) q.n fu) ((s1.try' j).mate j).toNat (s1.try' j)).1, rfl, hkp.try_.trans (aug_keep fu _ _ (by omega) hok1), ?_⟩
     rw [hag]
     simp only [augL]
     rw [if_neg (by rw [htf]; decide), if_neg (show ¬ s1.mate j < 0 from hnn)]
     exact if_neg (Bool.eq_false_iff.1 ht36)
   ·refine T.drawH 17 mixed ?_
    refine DH.read (i := 0) [(1, _, none)] rfl rfl rfl rfl ⟨⟨rfl, by kernel_rfl⟩, trivial⟩ (fun ext => TL.load hF rfl (own_mem (cs := #[ptr q.lk]) (e := 83) (fz := (0, 0)) (by simp) rfl) rfl TL.fin) ?_
    refine DH.pure (i := 1) [(18, _, some 0)] rfl rfl rfl rfl ⟨⟨rfl, rfl, rfl⟩, trivial⟩ (fun _ ext => TL.nilCheck hF rfl rfl TL.fin) ?_
    refine DH.pure (i := 2) [(19, _, some 1)] rfl rfl rfl rfl ⟨⟨rfl, rfl, rfl⟩, trivial⟩ (fun _ ext => TL.fieldAddr hF rfl rfl TL.fin) ?_
    refine DH.read (i := 3) [(20, _, some 2)] rfl rfl rfl rfl ⟨⟨rfl, rfl, rfl⟩, trivial⟩ (fun ext => TL.load hF rfl (own_mem (cs := (lkV q).toArray) (e := 86) (fz := (0, 0)) (by simp) rfl) rfl TL.fin) ?_
    refine DH.pure (i := 4) [(6, _, none)] rfl rfl rfl rfl ⟨⟨rfl, by kernel_rfl⟩, trivial⟩ (fun _ ext => TL.move hF rfl rfl TL.fin) ?_
    refine DH.pure (i := 5) [(21, _, some 3), (22, _, some 4)] rfl rfl rfl rfl ⟨⟨rfl, rfl, rfl⟩, ⟨rfl, rfl, rfl⟩, trivial⟩ (fun _ ext => TL.indexAddr hF rfl rfl ⟨_, rfl, rfl⟩ (by omega) (by omega) rfl TL.fin) ?_
    refine DH.read (i := 6) [(23, _, some 5)] rfl rfl rfl rfl ⟨⟨rfl, rfl, rfl⟩, trivial⟩ (fun ext => TL.load hF rfl (iseg_at (f := (s1.try' j).mate) (n := q.n) (b := q.bb) (j := j) (by simp) hjn) rfl TL.fin) ?_
    refine DH.pure (i := 7) [(24, _, some 6)] rfl rfl rfl rfl ⟨⟨rfl, rfl, rfl⟩, trivial⟩ (fun _ ext => TL.bin hF rfl rfl rfl rfl TL.fin) ?_
    refine DH.pure (i := 8) [(25, _, some 7)] rfl rfl rfl rfl ⟨⟨rfl, rfl, rfl⟩, trivial⟩ (fun _ ext => TL.move hF rfl rfl TL.fin) ?_
    refine DH.pure (i := 9) [(3, _, none), (26, _, some 8)] rfl rfl rfl rfl ⟨⟨rfl, by kernel_rfl⟩, ⟨rfl, rfl, rfl⟩, trivial⟩ (fun _ ext => TL.off hF rfl rfl rfl (by rw [hmt] <;> rfl) rfl TL.fin) ?_
    refine DH.pure (i := 10) [(1, _, none), (26, _, some 8)] rfl rfl rfl rfl ⟨⟨rfl, by kernel_rfl⟩, ⟨rfl, rfl, rfl⟩, trivial⟩ (fun _ ext => TL.off hF rfl rfl rfl (by rw [hmt] <;> rfl) rfl TL.fin) ?_
    refine DH.pure (i := 11) [(28, _, some 10), (26, _, some 8)] rfl rfl rfl rfl ⟨⟨rfl, rfl, rfl⟩, ⟨rfl, rfl, rfl⟩, trivial⟩ (fun _ ext => TL.off hF rfl rfl rfl (by rw [hmt] <;> rfl) rfl TL.fin) ?_
    refine DH.pure (i := 12) [(29, _, some 11), (26, _, some 8)] rfl rfl rfl rfl ⟨⟨rfl, rfl, rfl⟩, ⟨rfl, rfl, rfl⟩, trivial⟩ (fun _ ext => TL.off hF rfl rfl rfl (by rw [hmt] <;> rfl) rfl TL.fin) ?_
    refine DH.pure (i := 13) [(30, _, some 12), (26, _, some 8)] rfl rfl rfl rfl ⟨⟨rfl, rfl, rfl⟩, ⟨rfl, rfl, rfl⟩, trivial⟩ (fun _ ext => TL.off hF rfl rfl rfl (by rw [hmt] <;> rfl) rfl TL.fin) ?_
    refine DH.pure (i := 14) [(6, _, none), (26, _, some 8)] rfl rfl rfl rfl ⟨⟨rfl, by kernel_rfl⟩, ⟨rfl, rfl, rfl⟩, trivial⟩ (fun _ ext => TL.off hF rfl rfl rfl (by rw [hmt] <;> rfl) rfl TL.fin) ?_
    refine DH.pure (i := 15) [(31, _, some 13), (32, _, some 14), (26, _, some 8)] rfl rfl rfl rfl ⟨⟨rfl, rfl, rfl⟩, ⟨rfl, rfl, rfl⟩, ⟨rfl, rfl, rfl⟩, trivial⟩ (fun _ ext => TL.off hF rfl rfl rfl (by rw [hmt] <;> rfl) rfl TL.fin) ?_
    refine DH.pure (i := 16) [(33, _, some 15), (26, _, some 8)] rfl rfl rfl rfl ⟨⟨rfl, rfl, rfl⟩, ⟨rfl, rfl, rfl⟩, trivial⟩ (fun _ ext => TL.off hF rfl rfl rfl (by rw [hmt] <;> rfl) rfl TL.fin) ?_
    refine DH.done [(34, _), (33, _), (32, _), (31, _), (30, _), (29, _), (28, _), (27, _), (26, _), (25, _), (24, _), (23, _), (22, _), (21, _), (20, _), (19, _), (18, _)] [_, _] (by kernel_rfl) (by kernel_rfl) (by kernel_rfl) (by kernel_rfl) rfl rfl ?_
    refine TL.off hF rfl rfl rfl (by rw [hmt] <;> rfl) rfl ?_
    refine TL.pickT hF rfl (by rw [hmt] <;> rfl) rfl rfl ?_
    refine TL.nil ?_
    refine TQ.then_n ?_
    refine T.cond_t rfl rfl ?_
    refine T.seq ?_
    refine T.drawH 14 mixed ?_
    refine DH.read (i := 0) [(1, _, none)] rfl rfl rfl rfl ⟨⟨rfl, by kernel_rfl⟩, trivial⟩ (fun ext => TL.load hF rfl (own_mem (cs := #[ptr q.lk]) (e := 83) (fz := (0, 0)) (by simp) rfl) rfl TL.fin) ?_
    refine DH.pure (i := 1) [(37, _, some 0)] rfl rfl rfl rfl ⟨⟨rfl, rfl, rfl⟩, trivial⟩ (fun _ ext => TL.nilCheck hF rfl rfl TL.fin) ?_
    refine DH.pure (i := 2) [(38, _, some 1)] rfl rfl rfl rfl ⟨⟨rfl, rfl, rfl⟩, trivial⟩ (fun _ ext => TL.fieldAddr hF rfl rfl TL.fin) ?_
    refine DH.read (i := 3) [(39, _, some 2)] rfl rfl rfl rfl ⟨⟨rfl, rfl, rfl⟩, trivial⟩ (fun ext => TL.load hF rfl (own_mem (cs := (lkV q).toArray) (e := 86) (fz := (0, 0)) (by simp) rfl) rfl TL.fin) ?_
    refine DH.read (i := 4) [(4, _, none)] rfl rfl rfl rfl ⟨⟨rfl, by kernel_rfl⟩, trivial⟩ (fun ext => TL.load hF rfl (own_mem (cs := #[.int .i64 (i : Int)]) (e := 3) (fz := (0, 0)) (by simp) rfl) rfl TL.fin) ?_
    refine DH.read (i := 5) [(1, _, none)] rfl rfl rfl rfl ⟨⟨rfl, by kernel_rfl⟩, trivial⟩ (fun ext => TL.load hF rfl (own_mem (cs := #[ptr q.lk]) (e := 83) (fz := (0, 0)) (by simp) rfl) rfl TL.fin) ?_
    refine DH.pure (i := 6) [(42, _, some 5)] rfl rfl rfl rfl ⟨⟨rfl, rfl, rfl⟩, trivial⟩ (fun _ ext => TL.nilCheck hF rfl rfl TL.fin) ?_
    refine DH.pure (i := 7) [(43, _, some 6)] rfl rfl rfl rfl ⟨⟨rfl, rfl, rfl⟩, trivial⟩ (fun _ ext => TL.fieldAddr hF rfl rfl TL.fin) ?_
    refine DH.read (i := 8) [(44, _, some 7)] rfl rfl rfl rfl ⟨⟨rfl, rfl, rfl⟩, trivial⟩ (fun ext => TL.load hF rfl (own_mem (cs := (lkV q).toArray) (e := 86) (fz := (0, 0)) (by simp) rfl) rfl TL.fin) ?_
    refine DH.pure (i := 9) [(6, _, none)] rfl rfl rfl rfl ⟨⟨rfl, by kernel_rfl⟩, trivial⟩ (fun _ ext => TL.move hF rfl rfl TL.fin) ?_
    refine DH.pure (i := 10) [(6, _, none)] rfl rfl rfl rfl ⟨⟨rfl, by kernel_rfl⟩, trivial⟩ (fun _ ext => TL.move hF rfl rfl TL.fin) ?_
    refine DH.read (i := 11) [(4, _, none)] rfl rfl rfl rfl ⟨⟨rfl, by kernel_rfl⟩, trivial⟩ (fun ext => TL.load hF rfl (own_mem (cs := #[.int .i64 (i : Int)]) (e := 3) (fz := (0, 0)) (by simp) rfl) rfl TL.fin) ?_
    refine DH.pure (i := 12) [(40, _, some 3), (41, _, some 4)] rfl rfl rfl rfl ⟨⟨rfl, rfl, rfl⟩, ⟨rfl, rfl, rfl⟩, trivial⟩ (fun _ ext => TL.indexAddr hF rfl rfl ⟨_, rfl, rfl⟩ (by omega) (by omega) rfl TL.fin) ?_
    refine DH.k1 (by kernel_rfl) (by kernel_rfl) (by kernel_rfl) (by kernel_rfl) (HBK.mk (h := 13) [11] [(49, _, some 12), (47, _, some 10)] rfl rfl rfl ⟨⟨rfl, rfl, rfl⟩, ⟨rfl, rfl, rfl⟩, trivial⟩ (by kernel_rfl) (fun ext => ?_))
    refine TL.storeI hF 4 rfl rfl rfl rfl (by simp [intC_len]; omega) ?_
    refine TL.finKN ⟨⟨_, rfl, _, _, [(4, _, none)], rfl, rfl, ⟨⟨rfl, by kernel_rfl⟩, trivial⟩, fun ext => TL.load hF rfl (own_mem (cs := #[.int .i64 (i : Int)]) (e := 3) (fz := (0, 0)) (by simp) rfl) rfl TL.fin⟩, trivial⟩ ?_
    refine DH.done [(49, _), (48, _), (47, _), (46, _), (45, _), (44, _), (43, _), (42, _), (41, _), (40, _), (39, _), (38, _), (37, _)] [_, _] (by kernel_rfl) (by kernel_rfl) (by kernel_rfl) (by kernel_rfl) rfl rfl ?_
    refine TL.indexAddr hF rfl rfl ⟨_, rfl, rfl⟩ (by omega) (by omega) rfl ?_
    refine TL.storeI hF 5 rfl rfl rfl rfl (by simp [intC_len]; omega) ?_
    refine TL.nil ?_
    refine TQ.then_n ?_
    refine T.seq ?_
    refine T.region ?_
    refine TL.storeI hF 9 rfl rfl rfl rfl (by simp) ?_
    refine TL.nil ?_
    refine TQ.then_n ?_
    refine T.ret ?_
    refine TQ.block_r ?_
    refine TQ.rq_r ([(q.kb, Obj.cells #[ptr q.lk] 83 (0, 0))] :: [(q.tb, Obj.cells #[.slice (some ⟨q.tr, 0, none⟩) q.n q.n] 87 (0, 0))] :: [(q.fb, Obj.cells #[.func (.func 129) #[] #[ptr q.kb, ptr q.tb, ptr q.fb]] 118 (0, 0))] :: [(q.lk, Obj.cells (lkV q).toArray 86 (0, 0))] :: iseg q.nb q.n ((s1.try' j).link i j).nx :: iseg q.bb q.n ((s1.try' j).link i j).mate :: bseg q.tr q.n ((s1.try' j).link i j).tried :: [(c3, Obj.cells #[.int .i64 (i : Int)] 3 (0, 0))] :: [(c2, Obj.cells #[ptr q.lk] 83 (0, 0))] :: [(b5, Obj.cells #[.bool true] 4 (0, 0))] :: [(b4, Obj.cells #[.int .i64 (i : Int)] 3 (0, 0))] :: η) (congr (congrArg (fun z1 z2 : Seg => [(q.kb, Obj.cells #[ptr q.lk] 83 (0, 0))] :: [(q.tb, Obj.cells #[.slice (some ⟨q.tr, 0, none⟩) q.n q.n] 87 (0, 0))] :: [(q.fb, Obj.cells #[.func (.func 129) #[] #[ptr q.kb, ptr q.tb, ptr q.fb]] 118 (0, 0))] :: [(q.lk, Obj.cells (lkV q).toArray 86 (0, 0))] :: z1 :: z2 :: bseg q.tr q.n (s1.try' j).tried :: ([(c3, Obj.cells #[.int .i64 (i : Int)] 3 (0, 0))] :: [(c2, Obj.cells #[ptr q.lk] 83 (0, 0))] :: [(b5, Obj.cells #[.bool true] 4 (0, 0))] :: [(b4, Obj.cells #[.int .i64 (i : Int)] 3 (0, 0))] :: η ++ tl')) (iseg_updU (b := q.nb) (n := q.n) (f := (s1.try' j).nx) (v := (j : Int)) (k := 0 + ((i : Nat) : Int).toNat * 1) (j := i) (by simp))) (iseg_updU (b := q.bb) (n := q.n) (f := (s1.try' j).mate) (v := (i : Int)) (k := 0 + ((j : Nat) : Int).toNat * 1) (j := j) (by simp))) ⟨rfl, (s1.try' j).link i j, rfl, ?_⟩
    rw [hag]
    simp only [augL]
    rw [if_neg (by rw [htf]; decide)]
    exact if_pos (of_decide_eq_true hmt)
 ·rintro mk _ ⟨s1, rfl, hkp, hag⟩
  rw [List.length_map, ← hqn, List.drop_length] at hag
  refine TQ.block_n ?_
  refine TQ.then_n ?_
  refine T.seq ?_
  refine T.region ?_
  refine TL.storeI hF 10 rfl rfl rfl rfl (by simp) ?_
  refine TL.nil ?_
  refine TQ.then_n ?_
  refine T.ret ?_
  refine TQ.mark (i := 0) (.inl rfl) rfl ?_
  refine TQ.pick [10, 1, 2, 3, 4, 5, 6, 7] [_, _, _, _, _, _, _, _, _, _, _, _] rfl rfl rfl ?_
  refine TQ.retLC1 (x := .bool false) (coreH q s1 η) rfl rfl (At.own' (i := 0) rfl rfl) (List.sublist_cons_self _ _) ?_
  have e : aug (EP (tx qs)) q.n (fu + 1) i s = (s1, false) := hag
  rw [e]; exact ⟨rfl, rfl⟩
 ·rintro mk c _ ⟨rfl, s1, rfl, hag⟩
  refine T.ret ?_
  refine TQ.block_r ?_
  refine TQ.then_r ?_
  refine TQ.mark (i := 0) (.inl rfl) rfl ?_
  refine TQ.pick [10, 1, 2, 3, 4, 5, 6, 7] [_, _, _, _, _, _, _, _, _, _, _, _] rfl rfl rfl ?_
  refine TQ.retLC1 (x := .bool true) (coreH q s1 η) rfl rfl (At.own' (i := 0) rfl rfl) (List.sublist_cons_self _ _) ?_
  have e : aug (EP (tx qs)) q.n (fu + 1) i s = (s1, true) := hag
  rw [e]; exact ⟨rfl, rfl⟩
end Go.Proofs.YteimjjpigohnhaaGreat
/- All are paired, by the program. -/
namespace Go.Proofs.YteimjjpigohnhaaGreat
open Go.Sl
variable {S : Nat → Prop} {w0 : World} {η : Heap}
set_option maxHeartbeats 2000000 in
theorem linked_fn {a : Option Addr} {c w : Nat} {qs : List HL} (hx : LL S w0 [] a qs) (hl : qs.length ≤ 1000) (hw : ∀ p ∈ qs, p.2.1.length = w) (hw4 : w ≤ 4) :
  Rt Tryz.prog 88 [.agg #[.slice a qs.length c]].toArray S w0 η (fun v η' => ∃ lk nb bb, v = ptr lk ∧ η' = [(lk, Obj.cells (lkV ⟨a, qs.length, c, 0, 0, 0, lk, nb, bb, 0⟩).toArray 86 (0, 0))] :: iseg nb qs.length (runM (EP (tx qs)) qs.length qs.length).nx :: iseg bb qs.length (runM (EP (tx qs)) qs.length qs.length).mate :: η) := by
 have hF := open_wide
 refine Rt.of (fn := Tryz.f88) Tryz.func88 rfl rfl ?_
 refine T.seq ?_
 refine T.region ?_
 refine TL.box hF rfl rfl (fun b1 => ?_)
 refine TL.assign hF rfl rfl ?_
 refine TL.nil ?_
 refine TQ.then_n ?_
 refine T.seq ?_
 refine T.region ?_
 refine TL.fieldAddr hF rfl rfl ?_
 refine TL.load hF rfl (At.own' (i := 0) rfl rfl) rfl ?_
 refine TL.len hF rfl rfl ?_
 refine TL.assign hF rfl rfl ?_
 refine TL.nil ?_
 refine TQ.then_n ?_
 refine T.cut (ι := Nat × Nat × Nat × Nat) (fun _ => True) (fun i => [(3, .int .i64 (qs.length : Int)), (4, ptr i.1)]) (fun i => match i with | (b4, lk, nb, bb) => [(b4, Obj.cells #[ptr lk] 83 (0, 0))] :: [(lk, Obj.cells (lkV ⟨a, qs.length, c, 0, 0, 0, lk, nb, bb, 0⟩).toArray 86 (0, 0))] :: iseg nb qs.length (fun _ => -1) :: iseg bb qs.length (fun _ => -1) :: η) ?_ ?_
 ·refine T.drawH 10 mixed ?_
  refine DH.read (i := 0) [(1, _, none)] rfl rfl rfl rfl ⟨⟨rfl, by kernel_rfl⟩, trivial⟩ (fun ext => TL.loadA hF [.slice a qs.length c] rfl rfl (own_listM (e := 73) (fz := (0, 0)) (cs := [.slice a qs.length c]) (by simp [Value.cells])) rfl TL.fin) ?_
  refine DH.pure (i := 2) [(3, _, none)] rfl rfl rfl rfl ⟨⟨rfl, by kernel_rfl⟩, trivial⟩ (fun _ ext => TL.move hF rfl rfl TL.fin) ?_
  refine DH.pure (i := 5) [(3, _, none)] rfl rfl rfl rfl ⟨⟨rfl, by kernel_rfl⟩, trivial⟩ (fun _ ext => TL.move hF rfl rfl TL.fin) ?_
  refine DH.k3 (by kernel_rfl) (by kernel_rfl) (by kernel_rfl) (by kernel_rfl) (HBK.mk (h := 1) [0] [] rfl rfl rfl trivial (by kernel_rfl) (fun ext => ?_)) (HBK.mk (h := 4) [0] [] rfl rfl rfl trivial (by kernel_rfl) (fun ext => ?_)) (HBK.mk (h := 9) [0] [] rfl rfl rfl trivial (by kernel_rfl) (fun ext => ?_))
  ·refine TL.buildSlice hF rfl (cs := #[.int .i64 (-1)]) (e := 3) (fun w => by kernel_rfl) rfl (fun b12 => ?_)
   refine TL.finK ⟨⟨_, rfl, _, _, [(1, _, none)], rfl, rfl, ⟨⟨rfl, by kernel_rfl⟩, trivial⟩, fun ext => TL.loadA hF [.slice a qs.length c] rfl rfl (own_listM (e := 73) (fz := (0, 0)) (cs := [.slice a qs.length c]) (by simp [Value.cells])) rfl TL.fin⟩, trivial⟩ ?_
   refine DH.k3 (by kernel_rfl) (by kernel_rfl) (by kernel_rfl) (by kernel_rfl) (HBK.mk (h := 3) [0] [(12, _, some 1), (13, _, some 2)] rfl rfl rfl ⟨⟨rfl, rfl, rfl⟩, ⟨rfl, rfl, rfl⟩, trivial⟩ (by kernel_rfl) (fun ext => ?_)) (HBK.mk (h := 4) [0] [] rfl rfl rfl trivial (by kernel_rfl) (fun ext => ?_)) (HBK.mk (h := 9) [0] [] rfl rfl rfl trivial (by kernel_rfl) (fun ext => ?_))
   ·refine TL.call hF (Repeat_fn (n := qs.length) (v := -1) (by omega) (row_own (cs := [.int .i64 (-1)]) (e := 3) (by simp))) rfl rfl ?_
    rintro _ _ ⟨nb, rfl, rfl⟩
    refine TL.finK ⟨⟨_, rfl, _, _, [(1, _, none)], rfl, rfl, ⟨⟨rfl, by kernel_rfl⟩, trivial⟩, fun ext => TL.loadA hF [.slice a qs.length c] rfl rfl (own_listM (e := 73) (fz := (0, 0)) (cs := [.slice a qs.length c]) (by simp [Value.cells])) rfl TL.fin⟩, trivial⟩ ?_
    refine DH.k2 (by kernel_rfl) (by kernel_rfl) (by kernel_rfl) (by kernel_rfl) (HBK.mk (h := 4) [0] [] rfl rfl rfl trivial (by kernel_rfl) (fun ext => ?_)) (HBK.mk (h := 9) [0] [] rfl rfl rfl trivial (by kernel_rfl) (fun ext => ?_))
    ·refine TL.buildSlice hF rfl (cs := #[.int .i64 (-1)]) (e := 3) (fun w => by kernel_rfl) rfl (fun b15 => ?_)
     refine TL.finK ⟨⟨_, rfl, _, _, [(1, _, none)], rfl, rfl, ⟨⟨rfl, by kernel_rfl⟩, trivial⟩, fun ext => TL.loadA hF [.slice a qs.length c] rfl rfl (own_listM (e := 73) (fz := (0, 0)) (cs := [.slice a qs.length c]) (by simp [Value.cells])) rfl TL.fin⟩, trivial⟩ ?_
     refine DH.k2 (by kernel_rfl) (by kernel_rfl) (by kernel_rfl) (by kernel_rfl) (HBK.mk (h := 6) [0] [(15, _, some 4), (16, _, some 5)] rfl rfl rfl ⟨⟨rfl, rfl, rfl⟩, ⟨rfl, rfl, rfl⟩, trivial⟩ (by kernel_rfl) (fun ext => ?_)) (HBK.mk (h := 9) [0] [] rfl rfl rfl trivial (by kernel_rfl) (fun ext => ?_))
     ·refine TL.call hF (Repeat_fn (n := qs.length) (v := -1) (by omega) (row_own (cs := [.int .i64 (-1)]) (e := 3) (by simp))) rfl rfl ?_
      rintro _ _ ⟨bb, rfl, rfl⟩
      refine TL.finK ⟨⟨_, rfl, _, _, [(1, _, none)], rfl, rfl, ⟨⟨rfl, by kernel_rfl⟩, trivial⟩, fun ext => TL.loadA hF [.slice a qs.length c] rfl rfl (own_listM (e := 73) (fz := (0, 0)) (cs := [.slice a qs.length c]) (by simp [Value.cells])) rfl TL.fin⟩, trivial⟩ ?_
      refine DH.pure (i := 7) [(11, _, some 0), (14, _, some 3), (17, _, some 6)] rfl rfl rfl rfl ⟨⟨rfl, rfl, rfl⟩, ⟨rfl, rfl, rfl⟩, ⟨rfl, rfl, rfl⟩, trivial⟩ (fun _ ext => TL.build hF rfl (r := .agg #[.slice a qs.length c, .slice (some ⟨nb, 0, none⟩) qs.length qs.length, .slice (some ⟨bb, 0, none⟩) qs.length qs.length]) (fun w => by kernel_rfl) rfl TL.fin) ?_
      refine DH.k2 (by kernel_rfl) (by kernel_rfl) (by kernel_rfl) (by kernel_rfl) (HBK.mk (h := 8) [] [(18, _, some 7)] rfl rfl rfl ⟨⟨rfl, rfl, rfl⟩, trivial⟩ (by kernel_rfl) (fun ext => ?_)) (HBK.mk (h := 9) [0] [] rfl rfl rfl trivial (by kernel_rfl) (fun ext => ?_))
      ·refine TL.box hF rfl rfl (fun b19 => ?_)
       refine TL.finK trivial ?_
       refine DH.heavy 9 [] (by kernel_rfl) (by kernel_rfl) (by kernel_rfl) (by kernel_rfl) rfl rfl rfl rfl trivial (by kernel_rfl) (fun ext => ?_)
       refine TL.alloc hF rfl (fun b4 => ?_)
       refine TL.finD ?_
       refine DH.done [(4, _), (19, _), (18, _), (17, _), (15, _), (14, _), (12, _), (16, _), (13, _), (11, _)] [_] (by kernel_rfl) (by kernel_rfl) (by kernel_rfl) (by kernel_rfl) rfl rfl ?_
       refine TL.storeI hF 0 rfl rfl rfl rfl (by decide) ?_
       refine TL.nil ?_
       refine TQ.pick [0, 1, 4, 2] [_, _, _, _, _, _, _] rfl rfl rfl ?_
       exact TQ.cut (b4, b19, nb, bb) trivial ⟨rfl, rfl, trivial⟩ rfl
      ·refine TL.alloc hF rfl (fun b4 => ?_)
       refine TL.finK ⟨⟨_, rfl, _, _, [(1, _, none)], rfl, rfl, ⟨⟨rfl, by kernel_rfl⟩, trivial⟩, fun ext => TL.loadA hF [.slice a qs.length c] rfl rfl (own_listM (e := 73) (fz := (0, 0)) (cs := [.slice a qs.length c]) (by simp [Value.cells])) rfl TL.fin⟩, trivial⟩ ?_
       refine DH.heavy 8 [(18, _, some 7)] (by kernel_rfl) (by kernel_rfl) (by kernel_rfl) (by kernel_rfl) rfl rfl rfl rfl ⟨⟨rfl, rfl, rfl⟩, trivial⟩ (by kernel_rfl) (fun ext => ?_)
       refine TL.box hF rfl rfl (fun b19 => ?_)
       refine TL.finD ?_
       refine DH.done [(19, _), (4, _), (18, _), (17, _), (15, _), (14, _), (12, _), (16, _), (13, _), (11, _)] [_] (by kernel_rfl) (by kernel_rfl) (by kernel_rfl) (by kernel_rfl) rfl rfl ?_
       refine TL.storeI hF 1 rfl rfl rfl rfl (by decide) ?_
       refine TL.nil ?_
       refine TQ.pick [1, 0, 4, 2] [_, _, _, _, _, _, _] rfl rfl rfl ?_
       exact TQ.cut (b4, b19, nb, bb) trivial ⟨rfl, rfl, trivial⟩ rfl
     ·refine TL.alloc hF rfl (fun b4 => ?_)
      refine TL.finK ⟨⟨_, rfl, _, _, [(1, _, none)], rfl, rfl, ⟨⟨rfl, by kernel_rfl⟩, trivial⟩, fun ext => TL.loadA hF [.slice a qs.length c] rfl rfl (own_listM (e := 73) (fz := (0, 0)) (cs := [.slice a qs.length c]) (by simp [Value.cells])) rfl TL.fin⟩, trivial⟩ ?_
      refine DH.k1 (by kernel_rfl) (by kernel_rfl) (by kernel_rfl) (by kernel_rfl) (HBK.mk (h := 6) [0] [(15, _, some 4), (16, _, some 5)] rfl rfl rfl ⟨⟨rfl, rfl, rfl⟩, ⟨rfl, rfl, rfl⟩, trivial⟩ (by kernel_rfl) (fun ext => ?_))
      refine TL.call hF (Repeat_fn (n := qs.length) (v := -1) (by omega) (row_own (cs := [.int .i64 (-1)]) (e := 3) (by simp))) rfl rfl ?_
      rintro _ _ ⟨bb, rfl, rfl⟩
      refine TL.finK ⟨⟨_, rfl, _, _, [(1, _, none)], rfl, rfl, ⟨⟨rfl, by kernel_rfl⟩, trivial⟩, fun ext => TL.loadA hF [.slice a qs.length c] rfl rfl (own_listM (e := 73) (fz := (0, 0)) (cs := [.slice a qs.length c]) (by simp [Value.cells])) rfl TL.fin⟩, trivial⟩ ?_
      refine DH.pure (i := 7) [(11, _, some 0), (14, _, some 3), (17, _, some 6)] rfl rfl rfl rfl ⟨⟨rfl, rfl, rfl⟩, ⟨rfl, rfl, rfl⟩, ⟨rfl, rfl, rfl⟩, trivial⟩ (fun _ ext => TL.build hF rfl (r := .agg #[.slice a qs.length c, .slice (some ⟨nb, 0, none⟩) qs.length qs.length, .slice (some ⟨bb, 0, none⟩) qs.length qs.length]) (fun w => by kernel_rfl) rfl TL.fin) ?_
      refine DH.heavy 8 [(18, _, some 7)] (by kernel_rfl) (by kernel_rfl) (by kernel_rfl) (by kernel_rfl) rfl rfl rfl rfl ⟨⟨rfl, rfl, rfl⟩, trivial⟩ (by kernel_rfl) (fun ext => ?_)
      refine TL.box hF rfl rfl (fun b19 => ?_)
      refine TL.finD ?_
      refine DH.done [(19, _), (18, _), (17, _), (4, _), (15, _), (14, _), (12, _), (16, _), (13, _), (11, _)] [_] (by kernel_rfl) (by kernel_rfl) (by kernel_rfl) (by kernel_rfl) rfl rfl ?_
      refine TL.storeI hF 2 rfl rfl rfl rfl (by decide) ?_
      refine TL.nil ?_
      refine TQ.pick [2, 0, 4, 1] [_, _, _, _, _, _, _] rfl rfl rfl ?_
      exact TQ.cut (b4, b19, nb, bb) trivial ⟨rfl, rfl, trivial⟩ rfl
    ·refine TL.alloc hF rfl (fun b4 => ?_)
     refine TL.finK ⟨⟨_, rfl, _, _, [(1, _, none)], rfl, rfl, ⟨⟨rfl, by kernel_rfl⟩, trivial⟩, fun ext => TL.loadA hF [.slice a qs.length c] rfl rfl (own_listM (e := 73) (fz := (0, 0)) (cs := [.slice a qs.length c]) (by simp [Value.cells])) rfl TL.fin⟩, trivial⟩ ?_
     refine DH.k1 (by kernel_rfl) (by kernel_rfl) (by kernel_rfl) (by kernel_rfl) (HBK.mk (h := 4) [0] [] rfl rfl rfl trivial (by kernel_rfl) (fun ext => ?_))
     refine TL.buildSlice hF rfl (cs := #[.int .i64 (-1)]) (e := 3) (fun w => by kernel_rfl) rfl (fun b15 => ?_)
     refine TL.finK ⟨⟨_, rfl, _, _, [(1, _, none)], rfl, rfl, ⟨⟨rfl, by kernel_rfl⟩, trivial⟩, fun ext => TL.loadA hF [.slice a qs.length c] rfl rfl (own_listM (e := 73) (fz := (0, 0)) (cs := [.slice a qs.length c]) (by simp [Value.cells])) rfl TL.fin⟩, trivial⟩ ?_
     refine DH.k1 (by kernel_rfl) (by kernel_rfl) (by kernel_rfl) (by kernel_rfl) (HBK.mk (h := 6) [0] [(15, _, some 4), (16, _, some 5)] rfl rfl rfl ⟨⟨rfl, rfl, rfl⟩, ⟨rfl, rfl, rfl⟩, trivial⟩ (by kernel_rfl) (fun ext => ?_))
     refine TL.call hF (Repeat_fn (n := qs.length) (v := -1) (by omega) (row_own (cs := [.int .i64 (-1)]) (e := 3) (by simp))) rfl rfl ?_
     rintro _ _ ⟨bb, rfl, rfl⟩
     refine TL.finK ⟨⟨_, rfl, _, _, [(1, _, none)], rfl, rfl, ⟨⟨rfl, by kernel_rfl⟩, trivial⟩, fun ext => TL.loadA hF [.slice a qs.length c] rfl rfl (own_listM (e := 73) (fz := (0, 0)) (cs := [.slice a qs.length c]) (by simp [Value.cells])) rfl TL.fin⟩, trivial⟩ ?_
     refine DH.pure (i := 7) [(11, _, some 0), (14, _, some 3), (17, _, some 6)] rfl rfl rfl rfl ⟨⟨rfl, rfl, rfl⟩, ⟨rfl, rfl, rfl⟩, ⟨rfl, rfl, rfl⟩, trivial⟩ (fun _ ext => TL.build hF rfl (r := .agg #[.slice a qs.length c, .slice (some ⟨nb, 0, none⟩) qs.length qs.length, .slice (some ⟨bb, 0, none⟩) qs.length qs.length]) (fun w => by kernel_rfl) rfl TL.fin) ?_
     refine DH.heavy 8 [(18, _, some 7)] (by kernel_rfl) (by kernel_rfl) (by kernel_rfl) (by kernel_rfl) rfl rfl rfl rfl ⟨⟨rfl, rfl, rfl⟩, trivial⟩ (by kernel_rfl) (fun ext => ?_)
     refine TL.box hF rfl rfl (fun b19 => ?_)
     refine TL.finD ?_
     refine DH.done [(19, _), (18, _), (17, _), (15, _), (4, _), (14, _), (12, _), (16, _), (13, _), (11, _)] [_] (by kernel_rfl) (by kernel_rfl) (by kernel_rfl) (by kernel_rfl) rfl rfl ?_
     refine TL.storeI hF 3 rfl rfl rfl rfl (by decide) ?_
     refine TL.nil ?_
     refine TQ.pick [3, 0, 4, 1] [_, _, _, _, _, _, _] rfl rfl rfl ?_
     exact TQ.cut (b4, b19, nb, bb) trivial ⟨rfl, rfl, trivial⟩ rfl
   ·refine TL.buildSlice hF rfl (cs := #[.int .i64 (-1)]) (e := 3) (fun w => by kernel_rfl) rfl (fun b15 => ?_)
    refine TL.finK ⟨⟨_, rfl, _, _, [(1, _, none)], rfl, rfl, ⟨⟨rfl, by kernel_rfl⟩, trivial⟩, fun ext => TL.loadA hF [.slice a qs.length c] rfl rfl (own_listM (e := 73) (fz := (0, 0)) (cs := [.slice a qs.length c]) (by simp [Value.cells])) rfl TL.fin⟩, trivial⟩ ?_
    refine DH.k2 (by kernel_rfl) (by kernel_rfl) (by kernel_rfl) (by kernel_rfl) (HBK.mk (h := 3) [0] [(12, _, some 1), (13, _, some 2)] rfl rfl rfl ⟨⟨rfl, rfl, rfl⟩, ⟨rfl, rfl, rfl⟩, trivial⟩ (by kernel_rfl) (fun ext => ?_)) (HBK.mk (h := 9) [0] [] rfl rfl rfl trivial (by kernel_rfl) (fun ext => ?_))
    ·refine TL.call hF (Repeat_fn (n := qs.length) (v := -1) (by omega) (row_own (cs := [.int .i64 (-1)]) (e := 3) (by simp))) rfl rfl ?_
     rintro _ _ ⟨nb, rfl, rfl⟩
     refine TL.finK ⟨⟨_, rfl, _, _, [(1, _, none)], rfl, rfl, ⟨⟨rfl, by kernel_rfl⟩, trivial⟩, fun ext => TL.loadA hF [.slice a qs.length c] rfl rfl (own_listM (e := 73) (fz := (0, 0)) (cs := [.slice a qs.length c]) (by simp [Value.cells])) rfl TL.fin⟩, trivial⟩ ?_
     refine DH.k2 (by kernel_rfl) (by kernel_rfl) (by kernel_rfl) (by kernel_rfl) (HBK.mk (h := 6) [0] [(15, _, some 4), (16, _, some 5)] rfl rfl rfl ⟨⟨rfl, rfl, rfl⟩, ⟨rfl, rfl, rfl⟩, trivial⟩ (by kernel_rfl) (fun ext => ?_)) (HBK.mk (h := 9) [0] [] rfl rfl rfl trivial (by kernel_rfl) (fun ext => ?_))
     ·refine TL.call hF (Repeat_fn (n := qs.length) (v := -1) (by omega) (row_own (cs := [.int .i64 (-1)]) (e := 3) (by simp))) rfl rfl ?_
      rintro _ _ ⟨bb, rfl, rfl⟩
      refine TL.finK ⟨⟨_, rfl, _, _, [(1, _, none)], rfl, rfl, ⟨⟨rfl, by kernel_rfl⟩, trivial⟩, fun ext => TL.loadA hF [.slice a qs.length c] rfl rfl (own_listM (e := 73) (fz := (0, 0)) (cs := [.slice a qs.length c]) (by simp [Value.cells])) rfl TL.fin⟩, trivial⟩ ?_
      refine DH.pure (i := 7) [(11, _, some 0), (14, _, some 3), (17, _, some 6)] rfl rfl rfl rfl ⟨⟨rfl, rfl, rfl⟩, ⟨rfl, rfl, rfl⟩, ⟨rfl, rfl, rfl⟩, trivial⟩ (fun _ ext => TL.build hF rfl (r := .agg #[.slice a qs.length c, .slice (some ⟨nb, 0, none⟩) qs.length qs.length, .slice (some ⟨bb, 0, none⟩) qs.length qs.length]) (fun w => by kernel_rfl) rfl TL.fin) ?_
      refine DH.k2 (by kernel_rfl) (by kernel_rfl) (by kernel_rfl) (by kernel_rfl) (HBK.mk (h := 8) [] [(18, _, some 7)] rfl rfl rfl ⟨⟨rfl, rfl, rfl⟩, trivial⟩ (by kernel_rfl) (fun ext => ?_)) (HBK.mk (h := 9) [0] [] rfl rfl rfl trivial (by kernel_rfl) (fun ext => ?_))
      ·refine TL.box hF rfl rfl (fun b19 => ?_)
       refine TL.finK trivial ?_
       refine DH.heavy 9 [] (by kernel_rfl) (by kernel_rfl) (by kernel_rfl) (by kernel_rfl) rfl rfl rfl rfl trivial (by kernel_rfl) (fun ext => ?_)
       refine TL.alloc hF rfl (fun b4 => ?_)
       refine TL.finD ?_
       refine DH.done [(4, _), (19, _), (18, _), (17, _), (14, _), (15, _), (12, _), (16, _), (13, _), (11, _)] [_] (by kernel_rfl) (by kernel_rfl) (by kernel_rfl) (by kernel_rfl) rfl rfl ?_
       refine TL.storeI hF 0 rfl rfl rfl rfl (by decide) ?_
       refine TL.nil ?_
       refine TQ.pick [0, 1, 3, 2] [_, _, _, _, _, _, _] rfl rfl rfl ?_
       exact TQ.cut (b4, b19, nb, bb) trivial ⟨rfl, rfl, trivial⟩ rfl
      ·refine TL.alloc hF rfl (fun b4 => ?_)
       refine TL.finK ⟨⟨_, rfl, _, _, [(1, _, none)], rfl, rfl, ⟨⟨rfl, by kernel_rfl⟩, trivial⟩, fun ext => TL.loadA hF [.slice a qs.length c] rfl rfl (own_listM (e := 73) (fz := (0, 0)) (cs := [.slice a qs.length c]) (by simp [Value.cells])) rfl TL.fin⟩, trivial⟩ ?_
       refine DH.heavy 8 [(18, _, some 7)] (by kernel_rfl) (by kernel_rfl) (by kernel_rfl) (by kernel_rfl) rfl rfl rfl rfl ⟨⟨rfl, rfl, rfl⟩, trivial⟩ (by kernel_rfl) (fun ext => ?_)
       refine TL.box hF rfl rfl (fun b19 => ?_)
       refine TL.finD ?_
       refine DH.done [(19, _), (4, _), (18, _), (17, _), (14, _), (15, _), (12, _), (16, _), (13, _), (11, _)] [_] (by kernel_rfl) (by kernel_rfl) (by kernel_rfl) (by kernel_rfl) rfl rfl ?_
       refine TL.storeI hF 1 rfl rfl rfl rfl (by decide) ?_
       refine TL.nil ?_
       refine TQ.pick [1, 0, 3, 2] [_, _, _, _, _, _, _] rfl rfl rfl ?_
       exact TQ.cut (b4, b19, nb, bb) trivial ⟨rfl, rfl, trivial⟩ rfl
     ·refine TL.alloc hF rfl (fun b4 => ?_)
      refine TL.finK ⟨⟨_, rfl, _, _, [(1, _, none)], rfl, rfl, ⟨⟨rfl, by kernel_rfl⟩, trivial⟩, fun ext => TL.loadA hF [.slice a qs.length c] rfl rfl (own_listM (e := 73) (fz := (0, 0)) (cs := [.slice a qs.length c]) (by simp [Value.cells])) rfl TL.fin⟩, trivial⟩ ?_
      refine DH.k1 (by kernel_rfl) (by kernel_rfl) (by kernel_rfl) (by kernel_rfl) (HBK.mk (h := 6) [0] [(15, _, some 4), (16, _, some 5)] rfl rfl rfl ⟨⟨rfl, rfl, rfl⟩, ⟨rfl, rfl, rfl⟩, trivial⟩ (by kernel_rfl) (fun ext => ?_))
      refine TL.call hF (Repeat_fn (n := qs.length) (v := -1) (by omega) (row_own (cs := [.int .i64 (-1)]) (e := 3) (by simp))) rfl rfl ?_
      rintro _ _ ⟨bb, rfl, rfl⟩
      refine TL.finK ⟨⟨_, rfl, _, _, [(1, _, none)], rfl, rfl, ⟨⟨rfl, by kernel_rfl⟩, trivial⟩, fun ext => TL.loadA hF [.slice a qs.length c] rfl rfl (own_listM (e := 73) (fz := (0, 0)) (cs := [.slice a qs.length c]) (by simp [Value.cells])) rfl TL.fin⟩, trivial⟩ ?_
      refine DH.pure (i := 7) [(11, _, some 0), (14, _, some 3), (17, _, some 6)] rfl rfl rfl rfl ⟨⟨rfl, rfl, rfl⟩, ⟨rfl, rfl, rfl⟩, ⟨rfl, rfl, rfl⟩, trivial⟩ (fun _ ext => TL.build hF rfl (r := .agg #[.slice a qs.length c, .slice (some ⟨nb, 0, none⟩) qs.length qs.length, .slice (some ⟨bb, 0, none⟩) qs.length qs.length]) (fun w => by kernel_rfl) rfl TL.fin) ?_
      refine DH.heavy 8 [(18, _, some 7)] (by kernel_rfl) (by kernel_rfl) (by kernel_rfl) (by kernel_rfl) rfl rfl rfl rfl ⟨⟨rfl, rfl, rfl⟩, trivial⟩ (by kernel_rfl) (fun ext => ?_)
      refine TL.box hF rfl rfl (fun b19 => ?_)
      refine TL.finD ?_
      refine DH.done [(19, _), (18, _), (17, _), (4, _), (14, _), (15, _), (12, _), (16, _), (13, _), (11, _)] [_] (by kernel_rfl) (by kernel_rfl) (by kernel_rfl) (by kernel_rfl) rfl rfl ?_
      refine TL.storeI hF 2 rfl rfl rfl rfl (by decide) ?_
      refine TL.nil ?_
      refine TQ.pick [2, 0, 3, 1] [_, _, _, _, _, _, _] rfl rfl rfl ?_
      exact TQ.cut (b4, b19, nb, bb) trivial ⟨rfl, rfl, trivial⟩ rfl
    ·refine TL.alloc hF rfl (fun b4 => ?_)
     refine TL.finK ⟨⟨_, rfl, _, _, [(1, _, none)], rfl, rfl, ⟨⟨rfl, by kernel_rfl⟩, trivial⟩, fun ext => TL.loadA hF [.slice a qs.length c] rfl rfl (own_listM (e := 73) (fz := (0, 0)) (cs := [.slice a qs.length c]) (by simp [Value.cells])) rfl TL.fin⟩, trivial⟩ ?_
     refine DH.k1 (by kernel_rfl) (by kernel_rfl) (by kernel_rfl) (by kernel_rfl) (HBK.mk (h := 3) [0] [(12, _, some 1), (13, _, some 2)] rfl rfl rfl ⟨⟨rfl, rfl, rfl⟩, ⟨rfl, rfl, rfl⟩, trivial⟩ (by kernel_rfl) (fun ext => ?_))
     refine TL.call hF (Repeat_fn (n := qs.length) (v := -1) (by omega) (row_own (cs := [.int .i64 (-1)]) (e := 3) (by simp))) rfl rfl ?_
     rintro _ _ ⟨nb, rfl, rfl⟩
     refine TL.finK ⟨⟨_, rfl, _, _, [(1, _, none)], rfl, rfl, ⟨⟨rfl, by kernel_rfl⟩, trivial⟩, fun ext => TL.loadA hF [.slice a qs.length c] rfl rfl (own_listM (e := 73) (fz := (0, 0)) (cs := [.slice a qs.length c]) (by simp [Value.cells])) rfl TL.fin⟩, trivial⟩ ?_
     refine DH.k1 (by kernel_rfl) (by kernel_rfl) (by kernel_rfl) (by kernel_rfl) (HBK.mk (h := 6) [0] [(15, _, some 4), (16, _, some 5)] rfl rfl rfl ⟨⟨rfl, rfl, rfl⟩, ⟨rfl, rfl, rfl⟩, trivial⟩ (by kernel_rfl) (fun ext => ?_))
     refine TL.call hF (Repeat_fn (n := qs.length) (v := -1) (by omega) (row_own (cs := [.int .i64 (-1)]) (e := 3) (by simp))) rfl rfl ?_
     rintro _ _ ⟨bb, rfl, rfl⟩
     refine TL.finK ⟨⟨_, rfl, _, _, [(1, _, none)], rfl, rfl, ⟨⟨rfl, by kernel_rfl⟩, trivial⟩, fun ext => TL.loadA hF [.slice a qs.length c] rfl rfl (own_listM (e := 73) (fz := (0, 0)) (cs := [.slice a qs.length c]) (by simp [Value.cells])) rfl TL.fin⟩, trivial⟩ ?_
     refine DH.pure (i := 7) [(11, _, some 0), (14, _, some 3), (17, _, some 6)] rfl rfl rfl rfl ⟨⟨rfl, rfl, rfl⟩, ⟨rfl, rfl, rfl⟩, ⟨rfl, rfl, rfl⟩, trivial⟩ (fun _ ext => TL.build hF rfl (r := .agg #[.slice a qs.length c, .slice (some ⟨nb, 0, none⟩) qs.length qs.length, .slice (some ⟨bb, 0, none⟩) qs.length qs.length]) (fun w => by kernel_rfl) rfl TL.fin) ?_
     refine DH.heavy 8 [(18, _, some 7)] (by kernel_rfl) (by kernel_rfl) (by kernel_rfl) (by kernel_rfl) rfl rfl rfl rfl ⟨⟨rfl, rfl, rfl⟩, trivial⟩ (by kernel_rfl) (fun ext => ?_)
     refine TL.box hF rfl rfl (fun b19 => ?_)
     refine TL.finD ?_
     refine DH.done [(19, _), (18, _), (17, _), (14, _), (4, _), (15, _), (12, _), (16, _), (13, _), (11, _)] [_] (by kernel_rfl) (by kernel_rfl) (by kernel_rfl) (by kernel_rfl) rfl rfl ?_
     refine TL.storeI hF 3 rfl rfl rfl rfl (by decide) ?_
     refine TL.nil ?_
     refine TQ.pick [3, 0, 2, 1] [_, _, _, _, _, _, _] rfl rfl rfl ?_
     exact TQ.cut (b4, b19, nb, bb) trivial ⟨rfl, rfl, trivial⟩ rfl
   ·refine TL.alloc hF rfl (fun b4 => ?_)
    refine TL.finK ⟨⟨_, rfl, _, _, [(1, _, none)], rfl, rfl, ⟨⟨rfl, by kernel_rfl⟩, trivial⟩, fun ext => TL.loadA hF [.slice a qs.length c] rfl rfl (own_listM (e := 73) (fz := (0, 0)) (cs := [.slice a qs.length c]) (by simp [Value.cells])) rfl TL.fin⟩, trivial⟩ ?_
    refine DH.k2 (by kernel_rfl) (by kernel_rfl) (by kernel_rfl) (by kernel_rfl) (HBK.mk (h := 3) [0] [(12, _, some 1), (13, _, some 2)] rfl rfl rfl ⟨⟨rfl, rfl, rfl⟩, ⟨rfl, rfl, rfl⟩, trivial⟩ (by kernel_rfl) (fun ext => ?_)) (HBK.mk (h := 4) [0] [] rfl rfl rfl trivial (by kernel_rfl) (fun ext => ?_))
    ·refine TL.call hF (Repeat_fn (n := qs.length) (v := -1) (by omega) (row_own (cs := [.int .i64 (-1)]) (e := 3) (by simp))) rfl rfl ?_
     rintro _ _ ⟨nb, rfl, rfl⟩
     refine TL.finK ⟨⟨_, rfl, _, _, [(1, _, none)], rfl, rfl, ⟨⟨rfl, by kernel_rfl⟩, trivial⟩, fun ext => TL.loadA hF [.slice a qs.length c] rfl rfl (own_listM (e := 73) (fz := (0, 0)) (cs := [.slice a qs.length c]) (by simp [Value.cells])) rfl TL.fin⟩, trivial⟩ ?_
     refine DH.k1 (by kernel_rfl) (by kernel_rfl) (by kernel_rfl) (by kernel_rfl) (HBK.mk (h := 4) [0] [] rfl rfl rfl trivial (by kernel_rfl) (fun ext => ?_))
     refine TL.buildSlice hF rfl (cs := #[.int .i64 (-1)]) (e := 3) (fun w => by kernel_rfl) rfl (fun b15 => ?_)
     refine TL.finK ⟨⟨_, rfl, _, _, [(1, _, none)], rfl, rfl, ⟨⟨rfl, by kernel_rfl⟩, trivial⟩, fun ext => TL.loadA hF [.slice a qs.length c] rfl rfl (own_listM (e := 73) (fz := (0, 0)) (cs := [.slice a qs.length c]) (by simp [Value.cells])) rfl TL.fin⟩, trivial⟩ ?_
     refine DH.k1 (by kernel_rfl) (by kernel_rfl) (by kernel_rfl) (by kernel_rfl) (HBK.mk (h := 6) [0] [(15, _, some 4), (16, _, some 5)] rfl rfl rfl ⟨⟨rfl, rfl, rfl⟩, ⟨rfl, rfl, rfl⟩, trivial⟩ (by kernel_rfl) (fun ext => ?_))
     refine TL.call hF (Repeat_fn (n := qs.length) (v := -1) (by omega) (row_own (cs := [.int .i64 (-1)]) (e := 3) (by simp))) rfl rfl ?_
     rintro _ _ ⟨bb, rfl, rfl⟩
     refine TL.finK ⟨⟨_, rfl, _, _, [(1, _, none)], rfl, rfl, ⟨⟨rfl, by kernel_rfl⟩, trivial⟩, fun ext => TL.loadA hF [.slice a qs.length c] rfl rfl (own_listM (e := 73) (fz := (0, 0)) (cs := [.slice a qs.length c]) (by simp [Value.cells])) rfl TL.fin⟩, trivial⟩ ?_
     refine DH.pure (i := 7) [(11, _, some 0), (14, _, some 3), (17, _, some 6)] rfl rfl rfl rfl ⟨⟨rfl, rfl, rfl⟩, ⟨rfl, rfl, rfl⟩, ⟨rfl, rfl, rfl⟩, trivial⟩ (fun _ ext => TL.build hF rfl (r := .agg #[.slice a qs.length c, .slice (some ⟨nb, 0, none⟩) qs.length qs.length, .slice (some ⟨bb, 0, none⟩) qs.length qs.length]) (fun w => by kernel_rfl) rfl TL.fin) ?_
     refine DH.heavy 8 [(18, _, some 7)] (by kernel_rfl) (by kernel_rfl) (by kernel_rfl) (by kernel_rfl) rfl rfl rfl rfl ⟨⟨rfl, rfl, rfl⟩, trivial⟩ (by kernel_rfl) (fun ext => ?_)
     refine TL.box hF rfl rfl (fun b19 => ?_)
     refine TL.finD ?_
     refine DH.done [(19, _), (18, _), (17, _), (15, _), (14, _), (4, _), (12, _), (16, _), (13, _), (11, _)] [_] (by kernel_rfl) (by kernel_rfl) (by kernel_rfl) (by kernel_rfl) rfl rfl ?_
     refine TL.storeI hF 4 rfl rfl rfl rfl (by decide) ?_
     refine TL.nil ?_
     refine TQ.pick [4, 0, 3, 1] [_, _, _, _, _, _, _] rfl rfl rfl ?_
     exact TQ.cut (b4, b19, nb, bb) trivial ⟨rfl, rfl, trivial⟩ rfl
    ·refine TL.buildSlice hF rfl (cs := #[.int .i64 (-1)]) (e := 3) (fun w => by kernel_rfl) rfl (fun b15 => ?_)
     refine TL.finK ⟨⟨_, rfl, _, _, [(1, _, none)], rfl, rfl, ⟨⟨rfl, by kernel_rfl⟩, trivial⟩, fun ext => TL.loadA hF [.slice a qs.length c] rfl rfl (own_listM (e := 73) (fz := (0, 0)) (cs := [.slice a qs.length c]) (by simp [Value.cells])) rfl TL.fin⟩, trivial⟩ ?_
     refine DH.k1 (by kernel_rfl) (by kernel_rfl) (by kernel_rfl) (by kernel_rfl) (HBK.mk (h := 3) [0] [(12, _, some 1), (13, _, some 2)] rfl rfl rfl ⟨⟨rfl, rfl, rfl⟩, ⟨rfl, rfl, rfl⟩, trivial⟩ (by kernel_rfl) (fun ext => ?_))
     refine TL.call hF (Repeat_fn (n := qs.length) (v := -1) (by omega) (row_own (cs := [.int .i64 (-1)]) (e := 3) (by simp))) rfl rfl ?_
     rintro _ _ ⟨nb, rfl, rfl⟩
     refine TL.finK ⟨⟨_, rfl, _, _, [(1, _, none)], rfl, rfl, ⟨⟨rfl, by kernel_rfl⟩, trivial⟩, fun ext => TL.loadA hF [.slice a qs.length c] rfl rfl (own_listM (e := 73) (fz := (0, 0)) (cs := [.slice a qs.length c]) (by simp [Value.cells])) rfl TL.fin⟩, trivial⟩ ?_
     refine DH.k1 (by kernel_rfl) (by kernel_rfl) (by kernel_rfl) (by kernel_rfl) (HBK.mk (h := 6) [0] [(15, _, some 4), (16, _, some 5)] rfl rfl rfl ⟨⟨rfl, rfl, rfl⟩, ⟨rfl, rfl, rfl⟩, trivial⟩ (by kernel_rfl) (fun ext => ?_))
     refine TL.call hF (Repeat_fn (n := qs.length) (v := -1) (by omega) (row_own (cs := [.int .i64 (-1)]) (e := 3) (by simp))) rfl rfl ?_
     rintro _ _ ⟨bb, rfl, rfl⟩
     refine TL.finK ⟨⟨_, rfl, _, _, [(1, _, none)], rfl, rfl, ⟨⟨rfl, by kernel_rfl⟩, trivial⟩, fun ext => TL.loadA hF [.slice a qs.length c] rfl rfl (own_listM (e := 73) (fz := (0, 0)) (cs := [.slice a qs.length c]) (by simp [Value.cells])) rfl TL.fin⟩, trivial⟩ ?_
     refine DH.pure (i := 7) [(11, _, some 0), (14, _, some 3), (17, _, some 6)] rfl rfl rfl rfl ⟨⟨rfl, rfl, rfl⟩, ⟨rfl, rfl, rfl⟩, ⟨rfl, rfl, rfl⟩, trivial⟩ (fun _ ext => TL.build hF rfl (r := .agg #[.slice a qs.length c, .slice (some ⟨nb, 0, none⟩) qs.length qs.length, .slice (some ⟨bb, 0, none⟩) qs.length qs.length]) (fun w => by kernel_rfl) rfl TL.fin) ?_
     refine DH.heavy 8 [(18, _, some 7)] (by kernel_rfl) (by kernel_rfl) (by kernel_rfl) (by kernel_rfl) rfl rfl rfl rfl ⟨⟨rfl, rfl, rfl⟩, trivial⟩ (by kernel_rfl) (fun ext => ?_)
     refine TL.box hF rfl rfl (fun b19 => ?_)
     refine TL.finD ?_
     refine DH.done [(19, _), (18, _), (17, _), (14, _), (15, _), (4, _), (12, _), (16, _), (13, _), (11, _)] [_] (by kernel_rfl) (by kernel_rfl) (by kernel_rfl) (by kernel_rfl) rfl rfl ?_
     refine TL.storeI hF 4 rfl rfl rfl rfl (by decide) ?_
     refine TL.nil ?_
     refine TQ.pick [4, 0, 2, 1] [_, _, _, _, _, _, _] rfl rfl rfl ?_
     exact TQ.cut (b4, b19, nb, bb) trivial ⟨rfl, rfl, trivial⟩ rfl
  ·refine TL.buildSlice hF rfl (cs := #[.int .i64 (-1)]) (e := 3) (fun w => by kernel_rfl) rfl (fun b15 => ?_)
   refine TL.finK ⟨⟨_, rfl, _, _, [(1, _, none)], rfl, rfl, ⟨⟨rfl, by kernel_rfl⟩, trivial⟩, fun ext => TL.loadA hF [.slice a qs.length c] rfl rfl (own_listM (e := 73) (fz := (0, 0)) (cs := [.slice a qs.length c]) (by simp [Value.cells])) rfl TL.fin⟩, trivial⟩ ?_
   refine DH.k2 (by kernel_rfl) (by kernel_rfl) (by kernel_rfl) (by kernel_rfl) (HBK.mk (h := 1) [0] [] rfl rfl rfl trivial (by kernel_rfl) (fun ext => ?_)) (HBK.mk (h := 9) [0] [] rfl rfl rfl trivial (by kernel_rfl) (fun ext => ?_))
   ·refine TL.buildSlice hF rfl (cs := #[.int .i64 (-1)]) (e := 3) (fun w => by kernel_rfl) rfl (fun b12 => ?_)
    refine TL.finK ⟨⟨_, rfl, _, _, [(1, _, none)], rfl, rfl, ⟨⟨rfl, by kernel_rfl⟩, trivial⟩, fun ext => TL.loadA hF [.slice a qs.length c] rfl rfl (own_listM (e := 73) (fz := (0, 0)) (cs := [.slice a qs.length c]) (by simp [Value.cells])) rfl TL.fin⟩, trivial⟩ ?_
    refine DH.k2 (by kernel_rfl) (by kernel_rfl) (by kernel_rfl) (by kernel_rfl) (HBK.mk (h := 3) [0] [(12, _, some 1), (13, _, some 2)] rfl rfl rfl ⟨⟨rfl, rfl, rfl⟩, ⟨rfl, rfl, rfl⟩, trivial⟩ (by kernel_rfl) (fun ext => ?_)) (HBK.mk (h := 9) [0] [] rfl rfl rfl trivial (by kernel_rfl) (fun ext => ?_))
    ·refine TL.call hF (Repeat_fn (n := qs.length) (v := -1) (by omega) (row_own (cs := [.int .i64 (-1)]) (e := 3) (by simp))) rfl rfl ?_
     rintro _ _ ⟨nb, rfl, rfl⟩
     refine TL.finK ⟨⟨_, rfl, _, _, [(1, _, none)], rfl, rfl, ⟨⟨rfl, by kernel_rfl⟩, trivial⟩, fun ext => TL.loadA hF [.slice a qs.length c] rfl rfl (own_listM (e := 73) (fz := (0, 0)) (cs := [.slice a qs.length c]) (by simp [Value.cells])) rfl TL.fin⟩, trivial⟩ ?_
     refine DH.k2 (by kernel_rfl) (by kernel_rfl) (by kernel_rfl) (by kernel_rfl) (HBK.mk (h := 6) [0] [(15, _, some 4), (16, _, some 5)] rfl rfl rfl ⟨⟨rfl, rfl, rfl⟩, ⟨rfl, rfl, rfl⟩, trivial⟩ (by kernel_rfl) (fun ext => ?_)) (HBK.mk (h := 9) [0] [] rfl rfl rfl trivial (by kernel_rfl) (fun ext => ?_))
     ·refine TL.call hF (Repeat_fn (n := qs.length) (v := -1) (by omega) (row_own (cs := [.int .i64 (-1)]) (e := 3) (by simp))) rfl rfl ?_
      rintro _ _ ⟨bb, rfl, rfl⟩
      refine TL.finK ⟨⟨_, rfl, _, _, [(1, _, none)], rfl, rfl, ⟨⟨rfl, by kernel_rfl⟩, trivial⟩, fun ext => TL.loadA hF [.slice a qs.length c] rfl rfl (own_listM (e := 73) (fz := (0, 0)) (cs := [.slice a qs.length c]) (by simp [Value.cells])) rfl TL.fin⟩, trivial⟩ ?_
      refine DH.pure (i := 7) [(11, _, some 0), (14, _, some 3), (17, _, some 6)] rfl rfl rfl rfl ⟨⟨rfl, rfl, rfl⟩, ⟨rfl, rfl, rfl⟩, ⟨rfl, rfl, rfl⟩, trivial⟩ (fun _ ext => TL.build hF rfl (r := .agg #[.slice a qs.length c, .slice (some ⟨nb, 0, none⟩) qs.length qs.length, .slice (some ⟨bb, 0, none⟩) qs.length qs.length]) (fun w => by kernel_rfl) rfl TL.fin) ?_
      refine DH.k2 (by kernel_rfl) (by kernel_rfl) (by kernel_rfl) (by kernel_rfl) (HBK.mk (h := 8) [] [(18, _, some 7)] rfl rfl rfl ⟨⟨rfl, rfl, rfl⟩, trivial⟩ (by kernel_rfl) (fun ext => ?_)) (HBK.mk (h := 9) [0] [] rfl rfl rfl trivial (by kernel_rfl) (fun ext => ?_))
      ·refine TL.box hF rfl rfl (fun b19 => ?_)
       refine TL.finK trivial ?_
       refine DH.heavy 9 [] (by kernel_rfl) (by kernel_rfl) (by kernel_rfl) (by kernel_rfl) rfl rfl rfl rfl trivial (by kernel_rfl) (fun ext => ?_)
       refine TL.alloc hF rfl (fun b4 => ?_)
       refine TL.finD ?_
       refine DH.done [(4, _), (19, _), (18, _), (17, _), (14, _), (12, _), (15, _), (16, _), (13, _), (11, _)] [_] (by kernel_rfl) (by kernel_rfl) (by kernel_rfl) (by kernel_rfl) rfl rfl ?_
       refine TL.storeI hF 0 rfl rfl rfl rfl (by decide) ?_
       refine TL.nil ?_
       refine TQ.pick [0, 1, 3, 2] [_, _, _, _, _, _, _] rfl rfl rfl ?_
       exact TQ.cut (b4, b19, nb, bb) trivial ⟨rfl, rfl, trivial⟩ rfl
      ·refine TL.alloc hF rfl (fun b4 => ?_)
       refine TL.finK ⟨⟨_, rfl, _, _, [(1, _, none)], rfl, rfl, ⟨⟨rfl, by kernel_rfl⟩, trivial⟩, fun ext => TL.loadA hF [.slice a qs.length c] rfl rfl (own_listM (e := 73) (fz := (0, 0)) (cs := [.slice a qs.length c]) (by simp [Value.cells])) rfl TL.fin⟩, trivial⟩ ?_
       refine DH.heavy 8 [(18, _, some 7)] (by kernel_rfl) (by kernel_rfl) (by kernel_rfl) (by kernel_rfl) rfl rfl rfl rfl ⟨⟨rfl, rfl, rfl⟩, trivial⟩ (by kernel_rfl) (fun ext => ?_)
       refine TL.box hF rfl rfl (fun b19 => ?_)
       refine TL.finD ?_
       refine DH.done [(19, _), (4, _), (18, _), (17, _), (14, _), (12, _), (15, _), (16, _), (13, _), (11, _)] [_] (by kernel_rfl) (by kernel_rfl) (by kernel_rfl) (by kernel_rfl) rfl rfl ?_
       refine TL.storeI hF 1 rfl rfl rfl rfl (by decide) ?_
       refine TL.nil ?_
       refine TQ.pick [1, 0, 3, 2] [_, _, _, _, _, _, _] rfl rfl rfl ?_
       exact TQ.cut (b4, b19, nb, bb) trivial ⟨rfl, rfl, trivial⟩ rfl
     ·refine TL.alloc hF rfl (fun b4 => ?_)
      refine TL.finK ⟨⟨_, rfl, _, _, [(1, _, none)], rfl, rfl, ⟨⟨rfl, by kernel_rfl⟩, trivial⟩, fun ext => TL.loadA hF [.slice a qs.length c] rfl rfl (own_listM (e := 73) (fz := (0, 0)) (cs := [.slice a qs.length c]) (by simp [Value.cells])) rfl TL.fin⟩, trivial⟩ ?_
      refine DH.k1 (by kernel_rfl) (by kernel_rfl) (by kernel_rfl) (by kernel_rfl) (HBK.mk (h := 6) [0] [(15, _, some 4), (16, _, some 5)] rfl rfl rfl ⟨⟨rfl, rfl, rfl⟩, ⟨rfl, rfl, rfl⟩, trivial⟩ (by kernel_rfl) (fun ext => ?_))
      refine TL.call hF (Repeat_fn (n := qs.length) (v := -1) (by omega) (row_own (cs := [.int .i64 (-1)]) (e := 3) (by simp))) rfl rfl ?_
      rintro _ _ ⟨bb, rfl, rfl⟩
      refine TL.finK ⟨⟨_, rfl, _, _, [(1, _, none)], rfl, rfl, ⟨⟨rfl, by kernel_rfl⟩, trivial⟩, fun ext => TL.loadA hF [.slice a qs.length c] rfl rfl (own_listM (e := 73) (fz := (0, 0)) (cs := [.slice a qs.length c]) (by simp [Value.cells])) rfl TL.fin⟩, trivial⟩ ?_
      refine DH.pure (i := 7) [(11, _, some 0), (14, _, some 3), (17, _, some 6)] rfl rfl rfl rfl ⟨⟨rfl, rfl, rfl⟩, ⟨rfl, rfl, rfl⟩, ⟨rfl, rfl, rfl⟩, trivial⟩ (fun _ ext => TL.build hF rfl (r := .agg #[.slice a qs.length c, .slice (some ⟨nb, 0, none⟩) qs.length qs.length, .slice (some ⟨bb, 0, none⟩) qs.length qs.length]) (fun w => by kernel_rfl) rfl TL.fin) ?_
      refine DH.heavy 8 [(18, _, some 7)] (by kernel_rfl) (by kernel_rfl) (by kernel_rfl) (by kernel_rfl) rfl rfl rfl rfl ⟨⟨rfl, rfl, rfl⟩, trivial⟩ (by kernel_rfl) (fun ext => ?_)
      refine TL.box hF rfl rfl (fun b19 => ?_)
      refine TL.finD ?_
      refine DH.done [(19, _), (18, _), (17, _), (4, _), (14, _), (12, _), (15, _), (16, _), (13, _), (11, _)] [_] (by kernel_rfl) (by kernel_rfl) (by kernel_rfl) (by kernel_rfl) rfl rfl ?_
      refine TL.storeI hF 2 rfl rfl rfl rfl (by decide) ?_
      refine TL.nil ?_
      refine TQ.pick [2, 0, 3, 1] [_, _, _, _, _, _, _] rfl rfl rfl ?_
      exact TQ.cut (b4, b19, nb, bb) trivial ⟨rfl, rfl, trivial⟩ rfl
    ·refine TL.alloc hF rfl (fun b4 => ?_)
     refine TL.finK ⟨⟨_, rfl, _, _, [(1, _, none)], rfl, rfl, ⟨⟨rfl, by kernel_rfl⟩, trivial⟩, fun ext => TL.loadA hF [.slice a qs.length c] rfl rfl (own_listM (e := 73) (fz := (0, 0)) (cs := [.slice a qs.length c]) (by simp [Value.cells])) rfl TL.fin⟩, trivial⟩ ?_
     refine DH.k1 (by kernel_rfl) (by kernel_rfl) (by kernel_rfl) (by kernel_rfl) (HBK.mk (h := 3) [0] [(12, _, some 1), (13, _, some 2)] rfl rfl rfl ⟨⟨rfl, rfl, rfl⟩, ⟨rfl, rfl, rfl⟩, trivial⟩ (by kernel_rfl) (fun ext => ?_))
     refine TL.call hF (Repeat_fn (n := qs.length) (v := -1) (by omega) (row_own (cs := [.int .i64 (-1)]) (e := 3) (by simp))) rfl rfl ?_
     rintro _ _ ⟨nb, rfl, rfl⟩
     refine TL.finK ⟨⟨_, rfl, _, _, [(1, _, none)], rfl, rfl, ⟨⟨rfl, by kernel_rfl⟩, trivial⟩, fun ext => TL.loadA hF [.slice a qs.length c] rfl rfl (own_listM (e := 73) (fz := (0, 0)) (cs := [.slice a qs.length c]) (by simp [Value.cells])) rfl TL.fin⟩, trivial⟩ ?_
     refine DH.k1 (by kernel_rfl) (by kernel_rfl) (by kernel_rfl) (by kernel_rfl) (HBK.mk (h := 6) [0] [(15, _, some 4), (16, _, some 5)] rfl rfl rfl ⟨⟨rfl, rfl, rfl⟩, ⟨rfl, rfl, rfl⟩, trivial⟩ (by kernel_rfl) (fun ext => ?_))
     refine TL.call hF (Repeat_fn (n := qs.length) (v := -1) (by omega) (row_own (cs := [.int .i64 (-1)]) (e := 3) (by simp))) rfl rfl ?_
     rintro _ _ ⟨bb, rfl, rfl⟩
     refine TL.finK ⟨⟨_, rfl, _, _, [(1, _, none)], rfl, rfl, ⟨⟨rfl, by kernel_rfl⟩, trivial⟩, fun ext => TL.loadA hF [.slice a qs.length c] rfl rfl (own_listM (e := 73) (fz := (0, 0)) (cs := [.slice a qs.length c]) (by simp [Value.cells])) rfl TL.fin⟩, trivial⟩ ?_
     refine DH.pure (i := 7) [(11, _, some 0), (14, _, some 3), (17, _, some 6)] rfl rfl rfl rfl ⟨⟨rfl, rfl, rfl⟩, ⟨rfl, rfl, rfl⟩, ⟨rfl, rfl, rfl⟩, trivial⟩ (fun _ ext => TL.build hF rfl (r := .agg #[.slice a qs.length c, .slice (some ⟨nb, 0, none⟩) qs.length qs.length, .slice (some ⟨bb, 0, none⟩) qs.length qs.length]) (fun w => by kernel_rfl) rfl TL.fin) ?_
     refine DH.heavy 8 [(18, _, some 7)] (by kernel_rfl) (by kernel_rfl) (by kernel_rfl) (by kernel_rfl) rfl rfl rfl rfl ⟨⟨rfl, rfl, rfl⟩, trivial⟩ (by kernel_rfl) (fun ext => ?_)
     refine TL.box hF rfl rfl (fun b19 => ?_)
     refine TL.finD ?_
     refine DH.done [(19, _), (18, _), (17, _), (14, _), (4, _), (12, _), (15, _), (16, _), (13, _), (11, _)] [_] (by kernel_rfl) (by kernel_rfl) (by kernel_rfl) (by kernel_rfl) rfl rfl ?_
     refine TL.storeI hF 3 rfl rfl rfl rfl (by decide) ?_
     refine TL.nil ?_
     refine TQ.pick [3, 0, 2, 1] [_, _, _, _, _, _, _] rfl rfl rfl ?_
     exact TQ.cut (b4, b19, nb, bb) trivial ⟨rfl, rfl, trivial⟩ rfl
   ·refine TL.alloc hF rfl (fun b4 => ?_)
    refine TL.finK ⟨⟨_, rfl, _, _, [(1, _, none)], rfl, rfl, ⟨⟨rfl, by kernel_rfl⟩, trivial⟩, fun ext => TL.loadA hF [.slice a qs.length c] rfl rfl (own_listM (e := 73) (fz := (0, 0)) (cs := [.slice a qs.length c]) (by simp [Value.cells])) rfl TL.fin⟩, trivial⟩ ?_
    refine DH.k1 (by kernel_rfl) (by kernel_rfl) (by kernel_rfl) (by kernel_rfl) (HBK.mk (h := 1) [0] [] rfl rfl rfl trivial (by kernel_rfl) (fun ext => ?_))
    refine TL.buildSlice hF rfl (cs := #[.int .i64 (-1)]) (e := 3) (fun w => by kernel_rfl) rfl (fun b12 => ?_)
    refine TL.finK ⟨⟨_, rfl, _, _, [(1, _, none)], rfl, rfl, ⟨⟨rfl, by kernel_rfl⟩, trivial⟩, fun ext => TL.loadA hF [.slice a qs.length c] rfl rfl (own_listM (e := 73) (fz := (0, 0)) (cs := [.slice a qs.length c]) (by simp [Value.cells])) rfl TL.fin⟩, trivial⟩ ?_
    refine DH.k1 (by kernel_rfl) (by kernel_rfl) (by kernel_rfl) (by kernel_rfl) (HBK.mk (h := 3) [0] [(12, _, some 1), (13, _, some 2)] rfl rfl rfl ⟨⟨rfl, rfl, rfl⟩, ⟨rfl, rfl, rfl⟩, trivial⟩ (by kernel_rfl) (fun ext => ?_))
    refine TL.call hF (Repeat_fn (n := qs.length) (v := -1) (by omega) (row_own (cs := [.int .i64 (-1)]) (e := 3) (by simp))) rfl rfl ?_
    rintro _ _ ⟨nb, rfl, rfl⟩
    refine TL.finK ⟨⟨_, rfl, _, _, [(1, _, none)], rfl, rfl, ⟨⟨rfl, by kernel_rfl⟩, trivial⟩, fun ext => TL.loadA hF [.slice a qs.length c] rfl rfl (own_listM (e := 73) (fz := (0, 0)) (cs := [.slice a qs.length c]) (by simp [Value.cells])) rfl TL.fin⟩, trivial⟩ ?_
    refine DH.k1 (by kernel_rfl) (by kernel_rfl) (by kernel_rfl) (by kernel_rfl) (HBK.mk (h := 6) [0] [(15, _, some 4), (16, _, some 5)] rfl rfl rfl ⟨⟨rfl, rfl, rfl⟩, ⟨rfl, rfl, rfl⟩, trivial⟩ (by kernel_rfl) (fun ext => ?_))
    refine TL.call hF (Repeat_fn (n := qs.length) (v := -1) (by omega) (row_own (cs := [.int .i64 (-1)]) (e := 3) (by simp))) rfl rfl ?_
    rintro _ _ ⟨bb, rfl, rfl⟩
    refine TL.finK ⟨⟨_, rfl, _, _, [(1, _, none)], rfl, rfl, ⟨⟨rfl, by kernel_rfl⟩, trivial⟩, fun ext => TL.loadA hF [.slice a qs.length c] rfl rfl (own_listM (e := 73) (fz := (0, 0)) (cs := [.slice a qs.length c]) (by simp [Value.cells])) rfl TL.fin⟩, trivial⟩ ?_
    refine DH.pure (i := 7) [(11, _, some 0), (14, _, some 3), (17, _, some 6)] rfl rfl rfl rfl ⟨⟨rfl, rfl, rfl⟩, ⟨rfl, rfl, rfl⟩, ⟨rfl, rfl, rfl⟩, trivial⟩ (fun _ ext => TL.build hF rfl (r := .agg #[.slice a qs.length c, .slice (some ⟨nb, 0, none⟩) qs.length qs.length, .slice (some ⟨bb, 0, none⟩) qs.length qs.length]) (fun w => by kernel_rfl) rfl TL.fin) ?_
    refine DH.heavy 8 [(18, _, some 7)] (by kernel_rfl) (by kernel_rfl) (by kernel_rfl) (by kernel_rfl) rfl rfl rfl rfl ⟨⟨rfl, rfl, rfl⟩, trivial⟩ (by kernel_rfl) (fun ext => ?_)
    refine TL.box hF rfl rfl (fun b19 => ?_)
    refine TL.finD ?_
    refine DH.done [(19, _), (18, _), (17, _), (14, _), (12, _), (4, _), (15, _), (16, _), (13, _), (11, _)] [_] (by kernel_rfl) (by kernel_rfl) (by kernel_rfl) (by kernel_rfl) rfl rfl ?_
    refine TL.storeI hF 4 rfl rfl rfl rfl (by decide) ?_
    refine TL.nil ?_
    refine TQ.pick [4, 0, 2, 1] [_, _, _, _, _, _, _] rfl rfl rfl ?_
    exact TQ.cut (b4, b19, nb, bb) trivial ⟨rfl, rfl, trivial⟩ rfl
  ·refine TL.alloc hF rfl (fun b4 => ?_)
   refine TL.finK ⟨⟨_, rfl, _, _, [(1, _, none)], rfl, rfl, ⟨⟨rfl, by kernel_rfl⟩, trivial⟩, fun ext => TL.loadA hF [.slice a qs.length c] rfl rfl (own_listM (e := 73) (fz := (0, 0)) (cs := [.slice a qs.length c]) (by simp [Value.cells])) rfl TL.fin⟩, trivial⟩ ?_
   refine DH.k2 (by kernel_rfl) (by kernel_rfl) (by kernel_rfl) (by kernel_rfl) (HBK.mk (h := 1) [0] [] rfl rfl rfl trivial (by kernel_rfl) (fun ext => ?_)) (HBK.mk (h := 4) [0] [] rfl rfl rfl trivial (by kernel_rfl) (fun ext => ?_))
   ·refine TL.buildSlice hF rfl (cs := #[.int .i64 (-1)]) (e := 3) (fun w => by kernel_rfl) rfl (fun b12 => ?_)
    refine TL.finK ⟨⟨_, rfl, _, _, [(1, _, none)], rfl, rfl, ⟨⟨rfl, by kernel_rfl⟩, trivial⟩, fun ext => TL.loadA hF [.slice a qs.length c] rfl rfl (own_listM (e := 73) (fz := (0, 0)) (cs := [.slice a qs.length c]) (by simp [Value.cells])) rfl TL.fin⟩, trivial⟩ ?_
    refine DH.k2 (by kernel_rfl) (by kernel_rfl) (by kernel_rfl) (by kernel_rfl) (HBK.mk (h := 3) [0] [(12, _, some 1), (13, _, some 2)] rfl rfl rfl ⟨⟨rfl, rfl, rfl⟩, ⟨rfl, rfl, rfl⟩, trivial⟩ (by kernel_rfl) (fun ext => ?_)) (HBK.mk (h := 4) [0] [] rfl rfl rfl trivial (by kernel_rfl) (fun ext => ?_))
    ·refine TL.call hF (Repeat_fn (n := qs.length) (v := -1) (by omega) (row_own (cs := [.int .i64 (-1)]) (e := 3) (by simp))) rfl rfl ?_
     rintro _ _ ⟨nb, rfl, rfl⟩
     refine TL.finK ⟨⟨_, rfl, _, _, [(1, _, none)], rfl, rfl, ⟨⟨rfl, by kernel_rfl⟩, trivial⟩, fun ext => TL.loadA hF [.slice a qs.length c] rfl rfl (own_listM (e := 73) (fz := (0, 0)) (cs := [.slice a qs.length c]) (by simp [Value.cells])) rfl TL.fin⟩, trivial⟩ ?_
     refine DH.k1 (by kernel_rfl) (by kernel_rfl) (by kernel_rfl) (by kernel_rfl) (HBK.mk (h := 4) [0] [] rfl rfl rfl trivial (by kernel_rfl) (fun ext => ?_))
     refine TL.buildSlice hF rfl (cs := #[.int .i64 (-1)]) (e := 3) (fun w => by kernel_rfl) rfl (fun b15 => ?_)
     refine TL.finK ⟨⟨_, rfl, _, _, [(1, _, none)], rfl, rfl, ⟨⟨rfl, by kernel_rfl⟩, trivial⟩, fun ext => TL.loadA hF [.slice a qs.length c] rfl rfl (own_listM (e := 73) (fz := (0, 0)) (cs := [.slice a qs.length c]) (by simp [Value.cells])) rfl TL.fin⟩, trivial⟩ ?_
     refine DH.k1 (by kernel_rfl) (by kernel_rfl) (by kernel_rfl) (by kernel_rfl) (HBK.mk (h := 6) [0] [(15, _, some 4), (16, _, some 5)] rfl rfl rfl ⟨⟨rfl, rfl, rfl⟩, ⟨rfl, rfl, rfl⟩, trivial⟩ (by kernel_rfl) (fun ext => ?_))
     refine TL.call hF (Repeat_fn (n := qs.length) (v := -1) (by omega) (row_own (cs := [.int .i64 (-1)]) (e := 3) (by simp))) rfl rfl ?_
     rintro _ _ ⟨bb, rfl, rfl⟩
     refine TL.finK ⟨⟨_, rfl, _, _, [(1, _, none)], rfl, rfl, ⟨⟨rfl, by kernel_rfl⟩, trivial⟩, fun ext => TL.loadA hF [.slice a qs.length c] rfl rfl (own_listM (e := 73) (fz := (0, 0)) (cs := [.slice a qs.length c]) (by simp [Value.cells])) rfl TL.fin⟩, trivial⟩ ?_
     refine DH.pure (i := 7) [(11, _, some 0), (14, _, some 3), (17, _, some 6)] rfl rfl rfl rfl ⟨⟨rfl, rfl, rfl⟩, ⟨rfl, rfl, rfl⟩, ⟨rfl, rfl, rfl⟩, trivial⟩ (fun _ ext => TL.build hF rfl (r := .agg #[.slice a qs.length c, .slice (some ⟨nb, 0, none⟩) qs.length qs.length, .slice (some ⟨bb, 0, none⟩) qs.length qs.length]) (fun w => by kernel_rfl) rfl TL.fin) ?_
     refine DH.heavy 8 [(18, _, some 7)] (by kernel_rfl) (by kernel_rfl) (by kernel_rfl) (by kernel_rfl) rfl rfl rfl rfl ⟨⟨rfl, rfl, rfl⟩, trivial⟩ (by kernel_rfl) (fun ext => ?_)
     refine TL.box hF rfl rfl (fun b19 => ?_)
     refine TL.finD ?_
     refine DH.done [(19, _), (18, _), (17, _), (15, _), (14, _), (12, _), (4, _), (16, _), (13, _), (11, _)] [_] (by kernel_rfl) (by kernel_rfl) (by kernel_rfl) (by kernel_rfl) rfl rfl ?_
     refine TL.storeI hF 5 rfl rfl rfl rfl (by decide) ?_
     refine TL.nil ?_
     refine TQ.pick [5, 0, 3, 1] [_, _, _, _, _, _, _] rfl rfl rfl ?_
     exact TQ.cut (b4, b19, nb, bb) trivial ⟨rfl, rfl, trivial⟩ rfl
    ·refine TL.buildSlice hF rfl (cs := #[.int .i64 (-1)]) (e := 3) (fun w => by kernel_rfl) rfl (fun b15 => ?_)
     refine TL.finK ⟨⟨_, rfl, _, _, [(1, _, none)], rfl, rfl, ⟨⟨rfl, by kernel_rfl⟩, trivial⟩, fun ext => TL.loadA hF [.slice a qs.length c] rfl rfl (own_listM (e := 73) (fz := (0, 0)) (cs := [.slice a qs.length c]) (by simp [Value.cells])) rfl TL.fin⟩, trivial⟩ ?_
     refine DH.k1 (by kernel_rfl) (by kernel_rfl) (by kernel_rfl) (by kernel_rfl) (HBK.mk (h := 3) [0] [(12, _, some 1), (13, _, some 2)] rfl rfl rfl ⟨⟨rfl, rfl, rfl⟩, ⟨rfl, rfl, rfl⟩, trivial⟩ (by kernel_rfl) (fun ext => ?_))
     refine TL.call hF (Repeat_fn (n := qs.length) (v := -1) (by omega) (row_own (cs := [.int .i64 (-1)]) (e := 3) (by simp))) rfl rfl ?_
     rintro _ _ ⟨nb, rfl, rfl⟩
     refine TL.finK ⟨⟨_, rfl, _, _, [(1, _, none)], rfl, rfl, ⟨⟨rfl, by kernel_rfl⟩, trivial⟩, fun ext => TL.loadA hF [.slice a qs.length c] rfl rfl (own_listM (e := 73) (fz := (0, 0)) (cs := [.slice a qs.length c]) (by simp [Value.cells])) rfl TL.fin⟩, trivial⟩ ?_
     refine DH.k1 (by kernel_rfl) (by kernel_rfl) (by kernel_rfl) (by kernel_rfl) (HBK.mk (h := 6) [0] [(15, _, some 4), (16, _, some 5)] rfl rfl rfl ⟨⟨rfl, rfl, rfl⟩, ⟨rfl, rfl, rfl⟩, trivial⟩ (by kernel_rfl) (fun ext => ?_))
     refine TL.call hF (Repeat_fn (n := qs.length) (v := -1) (by omega) (row_own (cs := [.int .i64 (-1)]) (e := 3) (by simp))) rfl rfl ?_
     rintro _ _ ⟨bb, rfl, rfl⟩
     refine TL.finK ⟨⟨_, rfl, _, _, [(1, _, none)], rfl, rfl, ⟨⟨rfl, by kernel_rfl⟩, trivial⟩, fun ext => TL.loadA hF [.slice a qs.length c] rfl rfl (own_listM (e := 73) (fz := (0, 0)) (cs := [.slice a qs.length c]) (by simp [Value.cells])) rfl TL.fin⟩, trivial⟩ ?_
     refine DH.pure (i := 7) [(11, _, some 0), (14, _, some 3), (17, _, some 6)] rfl rfl rfl rfl ⟨⟨rfl, rfl, rfl⟩, ⟨rfl, rfl, rfl⟩, ⟨rfl, rfl, rfl⟩, trivial⟩ (fun _ ext => TL.build hF rfl (r := .agg #[.slice a qs.length c, .slice (some ⟨nb, 0, none⟩) qs.length qs.length, .slice (some ⟨bb, 0, none⟩) qs.length qs.length]) (fun w => by kernel_rfl) rfl TL.fin) ?_
     refine DH.heavy 8 [(18, _, some 7)] (by kernel_rfl) (by kernel_rfl) (by kernel_rfl) (by kernel_rfl) rfl rfl rfl rfl ⟨⟨rfl, rfl, rfl⟩, trivial⟩ (by kernel_rfl) (fun ext => ?_)
     refine TL.box hF rfl rfl (fun b19 => ?_)
     refine TL.finD ?_
     refine DH.done [(19, _), (18, _), (17, _), (14, _), (15, _), (12, _), (4, _), (16, _), (13, _), (11, _)] [_] (by kernel_rfl) (by kernel_rfl) (by kernel_rfl) (by kernel_rfl) rfl rfl ?_
     refine TL.storeI hF 5 rfl rfl rfl rfl (by decide) ?_
     refine TL.nil ?_
     refine TQ.pick [5, 0, 2, 1] [_, _, _, _, _, _, _] rfl rfl rfl ?_
     exact TQ.cut (b4, b19, nb, bb) trivial ⟨rfl, rfl, trivial⟩ rfl
   ·refine TL.buildSlice hF rfl (cs := #[.int .i64 (-1)]) (e := 3) (fun w => by kernel_rfl) rfl (fun b15 => ?_)
    refine TL.finK ⟨⟨_, rfl, _, _, [(1, _, none)], rfl, rfl, ⟨⟨rfl, by kernel_rfl⟩, trivial⟩, fun ext => TL.loadA hF [.slice a qs.length c] rfl rfl (own_listM (e := 73) (fz := (0, 0)) (cs := [.slice a qs.length c]) (by simp [Value.cells])) rfl TL.fin⟩, trivial⟩ ?_
    refine DH.k1 (by kernel_rfl) (by kernel_rfl) (by kernel_rfl) (by kernel_rfl) (HBK.mk (h := 1) [0] [] rfl rfl rfl trivial (by kernel_rfl) (fun ext => ?_))
    refine TL.buildSlice hF rfl (cs := #[.int .i64 (-1)]) (e := 3) (fun w => by kernel_rfl) rfl (fun b12 => ?_)
    refine TL.finK ⟨⟨_, rfl, _, _, [(1, _, none)], rfl, rfl, ⟨⟨rfl, by kernel_rfl⟩, trivial⟩, fun ext => TL.loadA hF [.slice a qs.length c] rfl rfl (own_listM (e := 73) (fz := (0, 0)) (cs := [.slice a qs.length c]) (by simp [Value.cells])) rfl TL.fin⟩, trivial⟩ ?_
    refine DH.k1 (by kernel_rfl) (by kernel_rfl) (by kernel_rfl) (by kernel_rfl) (HBK.mk (h := 3) [0] [(12, _, some 1), (13, _, some 2)] rfl rfl rfl ⟨⟨rfl, rfl, rfl⟩, ⟨rfl, rfl, rfl⟩, trivial⟩ (by kernel_rfl) (fun ext => ?_))
    refine TL.call hF (Repeat_fn (n := qs.length) (v := -1) (by omega) (row_own (cs := [.int .i64 (-1)]) (e := 3) (by simp))) rfl rfl ?_
    rintro _ _ ⟨nb, rfl, rfl⟩
    refine TL.finK ⟨⟨_, rfl, _, _, [(1, _, none)], rfl, rfl, ⟨⟨rfl, by kernel_rfl⟩, trivial⟩, fun ext => TL.loadA hF [.slice a qs.length c] rfl rfl (own_listM (e := 73) (fz := (0, 0)) (cs := [.slice a qs.length c]) (by simp [Value.cells])) rfl TL.fin⟩, trivial⟩ ?_
    refine DH.k1 (by kernel_rfl) (by kernel_rfl) (by kernel_rfl) (by kernel_rfl) (HBK.mk (h := 6) [0] [(15, _, some 4), (16, _, some 5)] rfl rfl rfl ⟨⟨rfl, rfl, rfl⟩, ⟨rfl, rfl, rfl⟩, trivial⟩ (by kernel_rfl) (fun ext => ?_))
    refine TL.call hF (Repeat_fn (n := qs.length) (v := -1) (by omega) (row_own (cs := [.int .i64 (-1)]) (e := 3) (by simp))) rfl rfl ?_
    rintro _ _ ⟨bb, rfl, rfl⟩
    refine TL.finK ⟨⟨_, rfl, _, _, [(1, _, none)], rfl, rfl, ⟨⟨rfl, by kernel_rfl⟩, trivial⟩, fun ext => TL.loadA hF [.slice a qs.length c] rfl rfl (own_listM (e := 73) (fz := (0, 0)) (cs := [.slice a qs.length c]) (by simp [Value.cells])) rfl TL.fin⟩, trivial⟩ ?_
    refine DH.pure (i := 7) [(11, _, some 0), (14, _, some 3), (17, _, some 6)] rfl rfl rfl rfl ⟨⟨rfl, rfl, rfl⟩, ⟨rfl, rfl, rfl⟩, ⟨rfl, rfl, rfl⟩, trivial⟩ (fun _ ext => TL.build hF rfl (r := .agg #[.slice a qs.length c, .slice (some ⟨nb, 0, none⟩) qs.length qs.length, .slice (some ⟨bb, 0, none⟩) qs.length qs.length]) (fun w => by kernel_rfl) rfl TL.fin) ?_
    refine DH.heavy 8 [(18, _, some 7)] (by kernel_rfl) (by kernel_rfl) (by kernel_rfl) (by kernel_rfl) rfl rfl rfl rfl ⟨⟨rfl, rfl, rfl⟩, trivial⟩ (by kernel_rfl) (fun ext => ?_)
    refine TL.box hF rfl rfl (fun b19 => ?_)
    refine TL.finD ?_
    refine DH.done [(19, _), (18, _), (17, _), (14, _), (12, _), (15, _), (4, _), (16, _), (13, _), (11, _)] [_] (by kernel_rfl) (by kernel_rfl) (by kernel_rfl) (by kernel_rfl) rfl rfl ?_
    refine TL.storeI hF 5 rfl rfl rfl rfl (by decide) ?_
    refine TL.nil ?_
    refine TQ.pick [5, 0, 2, 1] [_, _, _, _, _, _, _] rfl rfl rfl ?_
    exact TQ.cut (b4, b19, nb, bb) trivial ⟨rfl, rfl, trivial⟩ rfl
 ·rintro ⟨b4, lk, nb, bb⟩ _
  refine T.seq ?_
  refine T.seq ?_
  refine T.region ?_
  refine TL.move hF rfl rfl ?_
  refine TL.move hF rfl rfl ?_
  refine TL.nil ?_
  refine TQ.then_n ?_
  refine T.block ?_
  refine T.loop (ι := Nat) (fun k => k ≤ qs.length) (fun k => [(3, .int .i64 (qs.length : Int)), (4, ptr b4), (20, .int .i64 (qs.length : Int)), (21, .int .i64 (k : Int))]) (fun k => [(b4, Obj.cells #[ptr lk] 83 (0, 0))] :: [(lk, Obj.cells (lkV ⟨a, qs.length, c, 0, 0, 0, lk, nb, bb, 0⟩).toArray 86 (0, 0))] :: iseg nb qs.length (runM (EP (tx qs)) qs.length k).nx :: iseg bb qs.length (runM (EP (tx qs)) qs.length k).mate :: η) (fun k => qs.length - k) 0 (Nat.zero_le _) ⟨rfl, rfl, rfl, rfl, trivial⟩ rfl ?_
  intro k hk
  refine T.seq ?_
  refine T.region ?_
  refine TL.bin hF rfl rfl rfl rfl ?_
  refine TL.nil ?_
  refine TQ.then_n ?_
  refine T.seq ?_
  first | refine T.cond_d rfl (fun ht22 => ?_) (fun ht22 => ?_) | refine T.cond _ rfl (fun ht22 => ?_) (fun ht22 => ?_)
  ·refine T.skip ?_
   refine TQ.then_n ?_
   refine T.seq ?_
   refine T.block ?_
   refine T.seq ?_
   refine T.region ?_
   refine TL.move hF rfl rfl ?_
   refine TL.assign hF rfl rfl ?_
   refine TL.nil ?_
   refine TQ.then_n ?_
   refine T.seq ?_
   refine T.region ?_
   refine TL.move hF rfl rfl ?_
   refine TL.makeSlice hF rfl rfl rfl (by omega) (by omega) rfl (fun b25 => ?_)
   rw [rowC_false]
   refine TL.alloc hF rfl (fun b6 => ?_)
   refine TL.storeI hF 0 rfl rfl rfl rfl (by decide) ?_
   refine TL.nil ?_
   refine TQ.then_n ?_
   refine T.seq ?_
   refine T.region ?_
   refine TL.alloc hF rfl (fun b7 => ?_)
   refine TL.nil ?_
   refine TQ.then_n ?_
   refine T.seq ?_
   refine T.region ?_
   refine TL.makeFunc hF rfl rfl rfl ?_
   refine TL.storeI hF 0 rfl rfl rfl rfl (by decide) ?_
   refine TL.nil ?_
   refine TQ.then_n ?_
   refine T.region ?_
   refine TL.load hF rfl (At.own' (i := 0) rfl rfl) rfl ?_
   refine TL.move hF rfl rfl ?_
   refine TL.pick' [3, 1, 0, 4, 5, 6, 2] [_, _, _, _, _, _, _] rfl rfl rfl ?_
   refine TL.call hF (try_fn (q := ⟨a, qs.length, c, b4, b6, b7, lk, nb, bb, b25⟩) hx rfl (by omega) hw hw4 (qs.length + 1) (i := k) (s := ⟨fun _ => false, (runM (EP (tx qs)) qs.length k).mate, (runM (EP (tx qs)) qs.length k).nx⟩) (η := η) (by show k < qs.length; omega) ⟨(runM_ok hk).mate, (runM_ok hk).nx⟩ (Nat.lt_succ_of_le (unt_le _ _))) rfl rfl ?_
   rintro _ _ ⟨rfl, rfl⟩
   refine TL.nil ?_
   refine TQ.block_n ?_
   refine TQ.then_n ?_
   refine T.region ?_
   refine TL.add hF rfl rfl (by omega) (by omega) rfl ?_
   refine TL.move hF rfl rfl ?_
   refine TL.nil ?_
   refine TQ.pick [0, 3, 4, 5] [_, _, _, _, _, _, _] rfl rfl rfl ?_
   exact TQ.round (k + 1) (by omega) (by omega) ⟨rfl, rfl, rfl, rfl, trivial⟩ rfl
  ·refine T.exit ?_
   refine TQ.then_x ?_
   refine TQ.then_x ?_
   refine TQ.block_x ?_
   refine TQ.then_n ?_
   refine T.seq ?_
   refine T.region ?_
   refine TL.load hF rfl (own_mem (cs := #[ptr lk]) (e := 83) (fz := (0, 0)) (by simp) rfl) rfl ?_
   refine TL.assign hF rfl rfl ?_
   refine TL.nil ?_
   refine TQ.then_n ?_
   refine T.ret ?_
   refine TQ.pop ?_
   refine TQ.rets [2] _ rfl rfl rfl ?_
   have e : k = qs.length := by omega
   subst e
   exact ⟨lk, nb, bb, rfl, rfl⟩
end Go.Proofs.YteimjjpigohnhaaGreat
/- Chains: what they are. -/
namespace Go.Proofs.YteimjjpigohnhaaGreat
open Go.Sl
/-- One that is next of another one is behind it. -/
def NxE (E : Nat → Nat → Bool) (n : Nat) (s : Mt) : Prop := ∀ i, i < n → 0 ≤ s.nx i → E i (s.nx i).toNat = true
theorem NxE.link {E : Nat → Nat → Bool} {n i j : Nat} {s : Mt} (h : NxE E n s) (he : E i j = true) : NxE E n (s.link i j) := fun k hk h0 => by
  simp only [Mt.link] at h0 ⊢
  unfold upd at h0 ⊢
  by_cases e : k = i
  · rw [if_pos e] at h0 ⊢; rw [e]; simpa using he
  · rw [if_neg e] at h0 ⊢; exact h k hk h0
theorem augL_nxe {E : Nat → Nat → Bool} {rec : Nat → Mt → Mt × Bool} {n i : Nat} (hr : ∀ k s, NxE E n s → NxE E n (rec k s).1) : ∀ (l : List Nat) (s : Mt), (∀ j ∈ l, E i j = true) → NxE E n s → NxE E n (augL rec i l s).1
  | [], s, _, h => h
  | j :: r, s, hl, h => by
    have he := hl j List.mem_cons_self
    have hl2 : ∀ k ∈ r, E i k = true := fun k hk => hl k (List.mem_cons_of_mem _ hk)
    have ht : NxE E n (s.try' j) := h
    unfold augL
    split
    · exact augL_nxe hr r s hl2 h
    · split
      · exact ht.link he
      · split
        · exact (hr _ _ ht).link he
        · exact augL_nxe hr r _ hl2 (hr _ _ ht)
theorem aug_nxe {E : Nat → Nat → Bool} {n : Nat} : ∀ (f i : Nat) (s : Mt), NxE E n s → NxE E n (aug E n f i s).1
  | 0, _, _, h => h
  | f + 1, _i, s, h => augL_nxe (fun k s hs => aug_nxe f k s hs) _ s (fun _j hj => (mem_afterL.1 hj).2) h
theorem runM_nxe {E : Nat → Nat → Bool} {n : Nat} : ∀ k, NxE E n (runM E n k)
  | 0 => fun i _ h => by simp [runM] at h
  | k + 1 => aug_nxe (n + 1) k _ (fun i hi h0 => runM_nxe k i hi h0)
/-- In a sorted list one is behind another one only if it comes later. -/
theorem EP_lt {w : Nat} {l : List Tm} (ho : Ord l) (hw : ∀ x ∈ l, x.length = w) {i j : Nat} (hi : i < l.length) (hj : j < l.length) (h : EP l i j = true) : i < j := by
  unfold EP at h
  rw [Bool.and_eq_true] at h
  obtain ⟨h1, h2⟩ := h
  have h1 := of_decide_eq_true h1
  rw [List.getD_eq_getElem?_getD, List.getD_eq_getElem?_getD, List.getElem?_eq_getElem hi, List.getElem?_eq_getElem hj] at h2
  have h2 : tle l[i] l[j] = true := h2
  by_cases hlt : i < j
  · exact hlt
  · exfalso
    have h3 : lxl l[j] l[i] = true := List.pairwise_iff_getElem.1 ho j i hj hi (by omega)
    have hne : l[i] ≠ l[j] := fun e => by rw [e, lxl_irr] at h3; cases h3
    have h4 := tle_lxl ((hw _ (List.getElem_mem hi)).trans (hw _ (List.getElem_mem hj)).symm) h2 hne
    rw [lxl_asymm h4] at h3; cases h3
theorem nx_lt {w : Nat} {l : List Tm} (ho : Ord l) (hw : ∀ x ∈ l, x.length = w) {i : Nat} (hi : i < l.length) (h0 : 0 ≤ (runM (EP l) l.length l.length).nx i) : (i : Int) < (runM (EP l) l.length l.length).nx i := by
  have h1 := runM_nxe (E := EP l) (n := l.length) l.length i hi h0
  have h2 := (runM_ok (E := EP l) (n := l.length) (Nat.le_refl _)).nx i hi
  have h3 := EP_lt ho hw hi (by omega) h1
  omega
/-- The chains of a sorted list. -/
def chainT (l : List Tm) (m : Mt) (i : Nat) : List Tm := (chainI m.nx l.length (i : Int)).map fun j => l.getD j []
def chainsN (l : List Tm) (m : Mt) (k : Nat) : List (List Tm) := ((List.range k).filter fun i => decide (m.mate i < 0)).map (chainT l m)
def linkM (l : List Tm) : Mt := runM (EP l) l.length l.length
def chainsT (l : List Tm) : List (List Tm) := chainsN (sortT l) (linkM (sortT l)) (sortT l).length
def chainsS (l : List Tm) : List (List Tm) × Int := if timesE l = 0 then (chainsT l, 0) else ([], timesE l)
theorem chainsN_succ {l : List Tm} {m : Mt} {k : Nat} : chainsN l m (k + 1) = chainsN l m k ++ if m.mate k < 0 then [chainT l m k] else [] := by
  unfold chainsN
  rw [List.range_succ, List.filter_append, List.map_append]
  congr 1
  simp only [List.filter_cons, List.filter_nil]
  by_cases h : m.mate k < 0
  · rw [if_pos (decide_eq_true h), if_pos h]; rfl
  · rw [if_neg (by simpa using h), if_neg h]; rfl
theorem chainI_neg {nx : Nat → Int} {f : Nat} {i : Int} (h : i < 0) : chainI nx f i = [] := by
  cases f with
  | zero => rfl
  | succ f => unfold chainI; rw [if_pos h]
/-- A result of lists of times. -/
def tg (gs : List GL) : List (List Tm) := gs.map fun g => tx g.2.1
def ResC (S : Nat → Prop) (w0 : World) (r : List (List Tm) × Int) (η : Heap) (v : Value) (η' : Heap) : Prop := ∃ a cap gs segs, v = .tuple #[.slice a gs.length cap, .int .i64 r.2] ∧ tg gs = r.1 ∧ L3 S w0 segs a gs ∧ η' = segs ++ η
theorem tx_getDD (qs : List HL) (j : Nat) : ((qs.getD j default).2.1 : Tm) = (tx qs).getD j [] := by
  unfold tx
  rw [List.getD_eq_getElem?_getD, List.getD_eq_getElem?_getD, List.getElem?_map]
  cases qs[j]? <;> rfl
end Go.Proofs.YteimjjpigohnhaaGreat
/- Chains, by the program. -/
namespace Go.Proofs.YteimjjpigohnhaaGreat
open Go.Sl
variable {S : Nat → Prop} {w0 : World} {η : Heap}
structure ChS where
 oa : Option Addr
 oc : Nat
 gs : List GL
 og : Seg
 hs : Heap
structure CiS where
 cur : Int
 dn : List Nat
 fu : Nat
 a : Option Addr
 c : Nat
 g : Seg
theorem chainsN_len (l : List Tm) (m : Mt) (k : Nat) : (chainsN l m k).length ≤ k := by unfold chainsN; rw [List.length_map]; exact Nat.le_trans (List.length_filter_le _ _) (by simp)
def chH (qs : List HL) (dn : List Nat) : List HL := dn.map fun j => qs.getD j default
theorem chH_len (qs : List HL) (dn : List Nat) : (chH qs dn).length = dn.length := by simp [chH]
set_option maxHeartbeats 2000000 in
theorem Chains_prog {a : Option Addr} {ps : List HL} {c : Nat} (hx : LL S w0 [] a ps) (hl : ps.length < 2 ^ 63) (hlx : ∀ p ∈ ps, p.2.1.length < 2 ^ 63) :
  Rt Tryz.prog 29 [.slice a ps.length c].toArray S w0 η (ResC S w0 (chainsS (tx ps)) η) := by
 have hF := open_wide
 refine Rt.ofL (fn := Tryz.f29) Tryz.func29 rfl rfl ?_
 refine T.seq ?_
 refine T.region ?_
 refine TL.assign hF rfl rfl ?_
 refine TL.alloc hF rfl (fun b3 => ?_)
 refine TL.nil ?_
 refine TQ.then_n ?_
 refine T.seq ?_
 refine T.region ?_
 refine TL.makeFunc hF rfl rfl rfl ?_
 refine TL.defer hF rfl rfl ?_
 refine TL.nil ?_
 refine TQ.then_n ?_
 refine T.seq ?_
 refine T.region ?_
 refine TL.move hF rfl rfl ?_
 refine TL.buildSlice hF rfl (cs := #[gc (a, ps, c)]) (e := 32) (fun w => by kernel_rfl) rfl (fun b10 => ?_)
 refine TL.callE hF (listed_fn (gs := [(a, ps, c)]) (more := []) (b := none) (d := 0) (L3.one hx.ro (row_own (cs := [gc (a, ps, c)]) (e := 32) (by simp))) LL.none (by simp) (by simp) (by rw [catG_one]; exact hlx) (by simp) (fun g hg => by rw [List.mem_singleton.1 hg]; exact hl)) rfl rfl ?_ ?_
 ·rintro _ _ ⟨hB, rfl⟩
  rw [listE_times] at hB
  have hB : timesE (tx ps) = 0 := hB
  obtain ⟨hl2, hfit⟩ := times_ok hB
  rw [tx_len] at hl2
  obtain ⟨w, hw4, hwid⟩ := fit_wid hfit
  have hx1 := hx
  refine TL.nil ?_
  refine TQ.then_n ?_
  refine T.seq ?_
  refine T.region ?_
  refine TL.move hF rfl rfl ?_
  refine TL.buildSlice hF rfl (cs := #[gc (a, ps, c)]) (e := 32) (fun w => by kernel_rfl) rfl (fun b13 => ?_)
  refine TL.call hF (of_fn (gs := [(a, ps, c)]) (L3.one hx1.ro (row_own (cs := [gc (a, ps, c)]) (e := 32) (by simp))) (by simp) (fun g hg => by rw [List.mem_singleton.1 hg]; show ps.length < _; omega) (by rw [catG_one]; show ps.length < _; omega) (w := w) (by rw [catG_one]; exact wid_tx hwid) hw4) rfl rfl ?_
  rintro _ _ ⟨a2, c2, qs, segs, rfl, htq, rfl, hll, _⟩
  rw [catG_one] at htq
  refine TL.freeze segs rfl (fun S1 w1 hz1 => ?_)
  have hq1 := hll.frz hz1
  have hwq : ∀ p ∈ qs, p.2.1.length = w := fun p hp => hwid _ (mem_sortT.1 (htq ▸ List.mem_map_of_mem hp))
  have hql : qs.length ≤ ps.length := by have := sortT_len (tx ps); rw [← htq, tx_len, tx_len] at this; exact this
  have hwq2 : ∀ x ∈ tx qs, x.length = w := fun x hx2 => by obtain ⟨p, hp, rfl⟩ := List.mem_map.1 hx2; exact hwq p hp
  have hord : Ord (tx qs) := htq ▸ ord_sortT hwid
  have hnl : ∀ i, i < qs.length → 0 ≤ (linkM (tx qs)).nx i → (i : Int) < (linkM (tx qs)).nx i := fun i hi h0 => by
   have h1 := nx_lt hord hwq2 (i := i) (by rw [tx_len]; exact hi) h0; exact h1
  have hok : MtOk qs.length (linkM (tx qs)) := by have h1 := runM_ok (E := EP (tx qs)) (n := (tx qs).length) (Nat.le_refl _); rw [tx_len] at h1; unfold linkM; rw [tx_len]; exact h1
  have hmk : (linkM (tx qs)) = runM (EP (tx qs)) qs.length qs.length := by unfold linkM; rw [tx_len]
  refine TL.call hF (linked_fn (c := c2) hq1 (by omega) hwq hw4) rfl rfl ?_
  rintro _ _ ⟨lk, nb, bb, rfl, rfl⟩
  rw [← hmk]
  refine TL.assign hF rfl rfl ?_
  refine TL.nil ?_
  refine TQ.then_n ?_
  refine T.seq ?_
  refine T.region ?_
  refine TL.assign hF rfl rfl ?_
  refine TL.nil ?_
  refine TQ.then_n ?_
  refine T.seq ?_
  refine T.seq ?_
  refine T.region ?_
  refine TL.move hF rfl rfl ?_
  refine TL.nilCheck hF rfl rfl ?_
  refine TL.fieldAddr hF rfl rfl ?_
  refine TL.fieldAddr hF rfl rfl ?_
  refine TL.load hF rfl (by first | exact At.own' (i := 0) rfl rfl | exact At.own' (i := 1) rfl rfl | exact At.own' (i := 2) rfl rfl | exact At.own' (i := 3) rfl rfl | exact At.own' (i := 4) rfl rfl | exact At.own' (i := 5) rfl rfl | exact At.own' (i := 6) rfl rfl | exact At.own' (i := 7) rfl rfl | exact At.own' (i := 8) rfl rfl | exact At.own' (i := 9) rfl rfl | exact At.own' (i := 10) rfl rfl | exact At.own' (i := 11) rfl rfl | exact At.own' (i := 12) rfl rfl) rfl ?_
  refine TL.len hF rfl rfl ?_
  refine TL.move hF rfl rfl ?_
  refine TL.nil ?_
  refine TQ.then_n ?_
  refine T.block ?_
  refine T.hnil ?_
  refine T.loop (ι := Nat × ChS) (fun i => match i with | (k, s) => k ≤ qs.length ∧ OSl 32 1 (.slice s.oa s.gs.length s.oc) s.gs.length (s.gs.map gc) s.og ∧ (∀ g ∈ s.gs, ∀ S w0, LL S w0 s.hs g.1 g.2.1) ∧ tg s.gs = chainsN (tx qs) (linkM (tx qs)) k) (fun i => match i with | (k, s) => [(2, .slice none 0 0), (3, ptr b3), (4, ptr lk), (5, .slice s.oa s.gs.length s.oc), (21, .int .i64 (qs.length : Int)), (22, .int .i64 (k : Int))]) (fun i => match i with | (k, s) => s.og :: (s.hs ++ ([(lk, Obj.cells (lkV ⟨a2, qs.length, c2, 0, 0, 0, lk, nb, bb, 0⟩).toArray 86 (0, 0))] :: iseg nb qs.length (linkM (tx qs)).nx :: iseg bb qs.length (linkM (tx qs)).mate :: [(b13, Obj.cells #[gc (a, ps, c)] 32 (0, 0))] :: [(b10, Obj.cells #[gc (a, ps, c)] 32 (0, 0))] :: [(b3, Obj.cells #[.int .i64 0] ERR (0, 0))] :: η))) (fun i => qs.length - i.1) (0, ⟨none, 0, [], [], []⟩) ⟨Nat.zero_le _, OSl.nil _ _, by simp, rfl⟩ ⟨rfl, rfl, rfl, rfl, rfl, rfl, trivial⟩ rfl ?_
  rintro ⟨k, s⟩ ⟨hk, ho, hit, htg⟩
  refine T.seq ?_
  refine T.region ?_
  refine TL.bin hF rfl rfl rfl rfl ?_
  refine TL.nil ?_
  refine TQ.then_n ?_
  refine T.seq ?_
  first | refine T.cond_d rfl (fun ht23 => ?_) (fun ht23 => ?_) | refine T.cond _ rfl (fun ht23 => ?_) (fun ht23 => ?_)
  ·refine T.skip ?_
   refine TQ.then_n ?_
   refine T.seq ?_
   refine T.block ?_
   refine T.seq ?_
   refine T.region ?_
   refine TL.move hF rfl rfl ?_
   refine TL.assign hF rfl rfl ?_
   refine TL.nil ?_
   refine TQ.then_n ?_
   refine T.seq ?_
   refine T.seq ?_
   refine T.region ?_
   refine TL.move hF rfl rfl ?_
   refine TL.nilCheck hF rfl rfl ?_
   refine TL.fieldAddr hF rfl rfl ?_
   refine TL.load hF rfl (own_mem (cs := (lkV ⟨a2, qs.length, c2, 0, 0, 0, lk, nb, bb, 0⟩).toArray) (e := 86) (fz := (0, 0)) (by simp) rfl) rfl ?_
   refine TL.move hF rfl rfl ?_
   refine TL.indexAddr hF rfl rfl ⟨_, rfl, rfl⟩ (by omega) (by omega) rfl ?_
   refine TL.load hF rfl (iseg_at (f := (linkM (tx qs)).mate) (n := qs.length) (b := bb) (j := k) (by simp) (by omega)) rfl ?_
   refine TL.bin hF rfl rfl rfl rfl ?_
   refine TL.nil ?_
   refine TQ.then_n ?_
   first | refine T.cond_d rfl (fun ht32 => ?_) (fun ht32 => ?_) | refine T.cond _ rfl (fun ht32 => ?_) (fun ht32 => ?_)
   ·refine T.exit ?_
    refine TQ.then_x ?_
    refine TQ.block_x ?_
    refine TQ.then_n ?_
    refine T.region ?_
    refine TL.add hF rfl rfl (by omega) (by omega) rfl ?_
    refine TL.move hF rfl rfl ?_
    refine TL.nil ?_
    refine TQ.round (k + 1, s) ⟨by omega, ho, hit, ?_⟩ (by dsimp only; omega) ⟨rfl, rfl, rfl, rfl, rfl, rfl, trivial⟩ rfl
    rw [htg, chainsN_succ, if_neg (by omega), List.append_nil]
   ·refine T.skip ?_
    refine TQ.then_n ?_
    refine T.seq ?_
    refine T.region ?_
    refine TL.assign hF rfl rfl ?_
    refine TL.nil ?_
    refine TQ.then_n ?_
    refine T.seq ?_
    refine T.block ?_
    have hkl : k < qs.length := by omega
    refine T.hnil ?_
    refine T.loop (ι := CiS) (fun i => chainI (linkM (tx qs)).nx qs.length (k : Int) = i.dn ++ chainI (linkM (tx qs)).nx i.fu i.cur ∧ i.dn.length + i.fu ≤ qs.length ∧ (0 ≤ i.cur → qs.length - i.cur.toNat ≤ i.fu) ∧ (-1 ≤ i.cur ∧ i.cur < qs.length) ∧ OSl 66 1 (.slice i.a i.dn.length i.c) i.dn.length ((chH qs i.dn).map hc) i.g) (fun i => [(2, .slice none 0 0), (3, ptr b3), (4, ptr lk), (5, .slice s.oa s.gs.length s.oc), (6, .int .i64 i.cur), (7, .slice i.a i.dn.length i.c), (21, .int .i64 (qs.length : Int)), (22, .int .i64 (k : Int))]) (fun i => i.g :: s.og :: (s.hs ++ ([(lk, Obj.cells (lkV ⟨a2, qs.length, c2, 0, 0, 0, lk, nb, bb, 0⟩).toArray 86 (0, 0))] :: iseg nb qs.length (linkM (tx qs)).nx :: iseg bb qs.length (linkM (tx qs)).mate :: [(b13, Obj.cells #[gc (a, ps, c)] 32 (0, 0))] :: [(b10, Obj.cells #[gc (a, ps, c)] 32 (0, 0))] :: [(b3, Obj.cells #[.int .i64 0] ERR (0, 0))] :: η))) (fun i => i.fu) ⟨(k : Int), [], qs.length, none, 0, []⟩ ⟨rfl, by simp, fun _ => by show qs.length - ((k : Nat) : Int).toNat ≤ qs.length; omega, by show (-1 : Int) ≤ (k : Int) ∧ (k : Int) < qs.length; omega, OSl.nil _ _⟩ ⟨rfl, rfl, rfl, rfl, rfl, rfl, rfl, rfl, trivial⟩ rfl ?_
    rintro i ⟨hci, hlen, hfu, hcur, hog⟩
    refine T.seq ?_
    refine T.seq ?_
    refine T.region ?_
    refine TL.move hF rfl rfl ?_
    refine TL.bin hF rfl rfl rfl rfl ?_
    refine TL.nil ?_
    refine TQ.then_n ?_
    first | refine T.cond_d rfl (fun ht34 => ?_) (fun ht34 => ?_) | refine T.cond _ rfl (fun ht34 => ?_) (fun ht34 => ?_)
    ·refine T.skip ?_
     refine TQ.then_n ?_
     refine T.seq ?_
     refine T.block ?_
     refine T.region ?_
     refine TL.move hF rfl rfl ?_
     refine TL.move hF rfl rfl ?_
     refine TL.nilCheck hF rfl rfl ?_
     refine TL.fieldAddr hF rfl rfl ?_
     refine TL.fieldAddr hF rfl rfl ?_
     refine TL.load hF rfl (own_mem (cs := (lkV ⟨a2, qs.length, c2, 0, 0, 0, lk, nb, bb, 0⟩).toArray) (e := 86) (fz := (0, 0)) (by simp) rfl) rfl ?_
     refine TL.move hF rfl rfl ?_
     have hcl : i.cur.toNat < qs.length := by omega
     refine TL.indexAddr hF rfl rfl (hq1.ad (i := i.cur.toNat) hcl) (by omega) (by show i.cur < (qs.length : Int); omega) rfl ?_
     refine TL.load hF rfl (hq1.ro.at (i := i.cur.toNat) hcl) rfl ?_
     refine TL.buildSlice hF rfl (cs := #[hc qs[i.cur.toNat]]) (e := 66) (fun w => by kernel_rfl) rfl (fun b51 => ?_)
     refine TL.append hF 1 rfl rfl rfl hog (row_own (cs := [hc qs[i.cur.toNat]]) (e := 66) (by simp)).src rfl rfl (by simp [hc, Value.oneCell']) (by omega) (by omega) rfl (fun a' cap' seg' ho' => ?_)
     refine TL.assign hF rfl rfl ?_
     refine TL.nil ?_
     refine TQ.block_n ?_
     refine TQ.then_n ?_
     refine T.region ?_
     refine TL.move hF rfl rfl ?_
     refine TL.nilCheck hF rfl rfl ?_
     refine TL.fieldAddr hF rfl rfl ?_
     refine TL.load hF rfl (own_mem (cs := (lkV ⟨a2, qs.length, c2, 0, 0, 0, lk, nb, bb, 0⟩).toArray) (e := 86) (fz := (0, 0)) (by simp) rfl) rfl ?_
     refine TL.move hF rfl rfl ?_
     refine TL.indexAddr hF rfl rfl ⟨_, rfl, rfl⟩ (by omega) (by show i.cur < (qs.length : Int); omega) rfl ?_
     refine TL.load hF rfl (iseg_at (f := (linkM (tx qs)).nx) (n := qs.length) (b := nb) (j := i.cur.toNat) (by simp) hcl) rfl ?_
     refine TL.assign hF rfl rfl ?_
     refine TL.nil ?_
     have hf1 := hfu (by omega)
     obtain ⟨f1, hfe⟩ : ∃ f1, i.fu = f1 + 1 := ⟨i.fu - 1, by omega⟩
     have hnx := hok.nx i.cur.toNat hcl
     refine TQ.pop ?_
     refine TQ.round ⟨(linkM (tx qs)).nx i.cur.toNat, i.dn ++ [i.cur.toNat], f1, a', cap', seg'⟩ ⟨?_, by simp only [List.length_append, List.length_singleton]; omega, fun h0 => ?_, hnx, ?_⟩ (by show f1 < i.fu; omega) ⟨rfl, rfl, rfl, rfl, rfl, congrArg (fun n : Nat => some (Value.slice a' n cap')) (by simp), rfl, rfl, trivial⟩ rfl
     ·rw [hci, hfe]
      conv => lhs; unfold chainI
      rw [if_neg (by omega), List.append_assoc]; rfl
     ·have h1 := hnl i.cur.toNat hcl h0
      show qs.length - _ ≤ f1
      dsimp only at h0 ⊢
      omega
     ·have e : qs.getD i.cur.toNat default = qs[i.cur.toNat] := by rw [List.getD_eq_getElem?_getD, List.getElem?_eq_getElem hcl]; rfl
      dsimp only
      rw [List.length_append]
      unfold chH
      rw [List.map_append, List.map_append]
      simp only [List.map_cons, List.map_nil, List.length_singleton]
      rw [e]; exact ho'
    ·refine T.exit ?_
     refine TQ.then_x ?_
     refine TQ.then_x ?_
     refine TQ.block_x ?_
     refine TQ.then_n ?_
     refine T.region ?_
     refine TL.move hF rfl rfl ?_
     refine TL.move hF rfl rfl ?_
     have hcn : chainI (linkM (tx qs)).nx i.fu i.cur = [] := chainI_neg (by omega)
     have hci : chainI (linkM (tx qs)).nx qs.length (k : Int) = i.dn := by rw [hci, hcn, List.append_nil]
     have hcm : ∀ p ∈ chH qs i.dn, p.2.1.length ≤ w := fun p hp => by
      obtain ⟨j, _, rfl⟩ := List.mem_map.1 hp
      rw [List.getD_eq_getElem?_getD]
      cases h : qs[j]? with
      | none => exact Nat.zero_le _
      | some p => exact Nat.le_of_eq (hwq p (List.mem_of_getElem? h))
     have hch : LL S1 w1 (i.g :: s.og :: (s.hs ++ ([(lk, Obj.cells (lkV ⟨a2, qs.length, c2, 0, 0, 0, lk, nb, bb, 0⟩).toArray 86 (0, 0))] :: iseg nb qs.length (linkM (tx qs)).nx :: iseg bb qs.length (linkM (tx qs)).mate :: [(b13, Obj.cells #[gc (a, ps, c)] 32 (0, 0))] :: [(b10, Obj.cells #[gc (a, ps, c)] 32 (0, 0))] :: [(b3, Obj.cells #[.int .i64 0] ERR (0, 0))] :: η))) i.a (chH qs i.dn) := ⟨hog.row List.mem_cons_self, fun p hp => by
      obtain ⟨j, _, rfl⟩ := List.mem_map.1 hp
      rw [List.getD_eq_getElem?_getD]
      cases h : qs[j]? with
      | none => exact Row.none
      | some p => exact hq1.ro.item p (List.mem_of_getElem? h)⟩
     have hN := numbers_fn (c := i.c) hch (by rw [chH_len]; omega) (fun p hp => by have := hcm p hp; omega)
     rw [chH_len] at hN
     refine TL.call hF hN rfl rfl ?_
     rintro _ _ ⟨a4, c4, outs, og2, rfl, hol, hto, rfl⟩
     refine TL.heap (η' := (og2 :: outs.reverse.map (·.2)) ++ (i.g :: s.og :: (s.hs ++ ([(lk, Obj.cells (lkV ⟨a2, qs.length, c2, 0, 0, 0, lk, nb, bb, 0⟩).toArray 86 (0, 0))] :: iseg nb qs.length (linkM (tx qs)).nx :: iseg bb qs.length (linkM (tx qs)).mate :: [(b13, Obj.cells #[gc (a, ps, c)] 32 (0, 0))] :: [(b10, Obj.cells #[gc (a, ps, c)] 32 (0, 0))] :: [(b3, Obj.cells #[.int .i64 0] ERR (0, 0))] :: η)))) rfl ?_
     refine TL.hsub ((og2 :: outs.reverse.map (·.2)) ++ (s.og :: (s.hs ++ ([(lk, Obj.cells (lkV ⟨a2, qs.length, c2, 0, 0, 0, lk, nb, bb, 0⟩).toArray 86 (0, 0))] :: iseg nb qs.length (linkM (tx qs)).nx :: iseg bb qs.length (linkM (tx qs)).mate :: [(b13, Obj.cells #[gc (a, ps, c)] 32 (0, 0))] :: [(b10, Obj.cells #[gc (a, ps, c)] 32 (0, 0))] :: [(b3, Obj.cells #[.int .i64 0] ERR (0, 0))] :: η)))) (List.Sublist.append (List.Sublist.refl _) (List.sublist_cons_self _ _)) ?_
     refine TL.hperm (s.og :: ((og2 :: outs.reverse.map (·.2)) ++ (s.hs ++ ([(lk, Obj.cells (lkV ⟨a2, qs.length, c2, 0, 0, 0, lk, nb, bb, 0⟩).toArray 86 (0, 0))] :: iseg nb qs.length (linkM (tx qs)).nx :: iseg bb qs.length (linkM (tx qs)).mate :: [(b13, Obj.cells #[gc (a, ps, c)] 32 (0, 0))] :: [(b10, Obj.cells #[gc (a, ps, c)] 32 (0, 0))] :: [(b3, Obj.cells #[.int .i64 0] ERR (0, 0))] :: η)))) List.perm_middle.symm ?_
     have hgl : s.gs.length ≤ k := by have h1 := congrArg List.length htg; have h2 := chainsN_len (tx qs) (linkM (tx qs)) k; unfold tg at h1; rw [List.length_map] at h1; omega
     refine TL.buildSlice hF rfl (cs := #[.slice a4 outs.length c4]) (e := 32) (fun w => by kernel_rfl) rfl (fun b56 => ?_)
     refine TL.append hF 1 rfl rfl rfl ho (row_own (cs := [.slice a4 outs.length c4]) (e := 32) (by simp)).src rfl rfl (by simp [Value.oneCell']) (by omega) (by omega) rfl (fun a' cap' seg' ho' => ?_)
     refine TL.assign hF rfl rfl ?_
     refine TL.nil ?_
     refine TQ.block_n ?_
     refine TQ.then_n ?_
     refine T.region ?_
     refine TL.add hF rfl rfl (by omega) (by omega) rfl ?_
     refine TL.move hF rfl rfl ?_
     refine TL.nil ?_
     refine TQ.pop ?_
     refine TQ.round (k + 1, ⟨a', cap', s.gs ++ [(a4, outs.map (·.1), c4)], seg', (og2 :: outs.reverse.map (·.2)) ++ s.hs⟩) ⟨by omega, ?_, ?_, ?_⟩ (by dsimp only; omega) ⟨rfl, rfl, rfl, congrArg (fun n : Nat => some (Value.slice a' n cap')) (by simp), rfl, rfl, trivial⟩ (by show seg' :: _ = seg' :: _; rw [List.append_assoc])
     ·dsimp only
      rw [List.length_append, List.map_append]
      have e : [((a4, outs.map (·.1), c4) : GL)].map gc = [.slice a4 outs.length c4] := by simp [gc]
      rw [e]; exact ho'
     ·intro g hg S' w'
      rcases List.mem_append.1 hg with h | h
      ·exact (hit g h S' w').up (fun z hz => List.mem_append_right _ hz)
      ·rw [List.mem_singleton.1 h]
       exact hol.ll (List.mem_append_left _ List.mem_cons_self) (fun t ht => List.mem_append_left _ (List.mem_cons_of_mem _ (List.mem_map_of_mem (List.mem_reverse.2 ht))))
     ·dsimp only
      rw [chainsN_succ, if_pos (by omega)]
      unfold tg at htg ⊢
      rw [List.map_append, htg]
      congr 1
      have e1 : tx (outs.map (·.1)) = chainT (tx qs) (linkM (tx qs)) k := by
       unfold chainT
       rw [tx_len, hci]
       have e2 : tx (outs.map (·.1)) = tx (chH qs i.dn) := by rw [← hto]; simp [tx, List.map_map, Function.comp_def]
       rw [e2]
       unfold chH tx
       rw [List.map_map]
       exact List.map_congr_left fun j _ => tx_getDD qs j
      simp only [List.map_cons, List.map_nil]
      rw [e1]
  ·refine T.exit ?_
   refine TQ.then_x ?_
   refine TQ.then_x ?_
   refine TQ.block_x ?_
   refine TQ.then_n ?_
   refine T.seq ?_
   refine T.region ?_
   refine TL.move hF rfl rfl ?_
   refine TL.heap (η' := (s.og :: (s.hs ++ [[(lk, Obj.cells (lkV ⟨a2, qs.length, c2, 0, 0, 0, lk, nb, bb, 0⟩).toArray 86 (0, 0))], iseg nb qs.length (linkM (tx qs)).nx, iseg bb qs.length (linkM (tx qs)).mate, [(b13, Obj.cells #[gc (a, ps, c)] 32 (0, 0))], [(b10, Obj.cells #[gc (a, ps, c)] 32 (0, 0))]])) ++ ([(b3, Obj.cells #[.int .i64 0] ERR (0, 0))] :: η)) (by simp only [List.append_assoc, List.cons_append]; rfl) ?_
   refine TL.hperm ([(b3, Obj.cells #[.int .i64 0] ERR (0, 0))] :: ((s.og :: (s.hs ++ [[(lk, Obj.cells (lkV ⟨a2, qs.length, c2, 0, 0, 0, lk, nb, bb, 0⟩).toArray 86 (0, 0))], iseg nb qs.length (linkM (tx qs)).nx, iseg bb qs.length (linkM (tx qs)).mate, [(b13, Obj.cells #[gc (a, ps, c)] 32 (0, 0))], [(b10, Obj.cells #[gc (a, ps, c)] 32 (0, 0))]])) ++ η)) List.perm_middle.symm ?_
   refine TL.assign hF rfl rfl ?_
   refine TL.storeI hF 0 rfl rfl rfl rfl (by decide) ?_
   refine TL.nil ?_
   refine TQ.then_n ?_
   refine T.ret ?_
   refine TQ.thaw hz1 ?_
   have e : chainsS (tx ps) = (chainsT (tx ps), 0) := by unfold chainsS; rw [if_pos hB]
   refine TQ.retL [2] _ stop87 (stopped_nil _) rfl rfl rfl (own_mem (e := ERR) (fz := (0, 0)) (cs := #[.int .i64 0]) (by simp) rfl) ?_
   rw [e]
   have hkn : k = qs.length := by omega
   refine ⟨s.oa, s.oc, s.gs, segs ++ ([(b3, Obj.cells #[.int .i64 0] ERR (0, 0))] :: s.og :: (s.hs ++ [[(lk, Obj.cells (lkV ⟨a2, qs.length, c2, 0, 0, 0, lk, nb, bb, 0⟩).toArray 86 (0, 0))], iseg nb qs.length (linkM (tx qs)).nx, iseg bb qs.length (linkM (tx qs)).mate, [(b13, Obj.cells #[gc (a, ps, c)] 32 (0, 0))], [(b10, Obj.cells #[gc (a, ps, c)] 32 (0, 0))]])), rfl, ?_, ⟨ho.row (by simp), fun g hg => (hit g hg _ _).up (fun z hz => by simp [hz])⟩, by simp only [List.append_assoc, List.cons_append]; rfl⟩
   rw [htg]
   unfold chainsT
   rw [← htq, tx_len, hkn]
 ·rintro _ _ ⟨hB, rfl, rfl⟩
  rw [listE_times] at hB ⊢
  refine TQ.then_p ?_
  refine TQ.pop ?_
  refine TQ.panL [2] [.slice none 0 0] stop87 (stopped_err _) rfl rfl rfl (At.own' (i := 0) rfl rfl) ?_
  have e : chainsS (tx ps) = ([], timesE (tx ps)) := by unfold chainsS; rw [if_neg (by intro h; rw [h] at hB; rcases hB with q | q <;> cases q)]
  rw [e]
  exact ⟨none, 0, [], [_], rfl, rfl, ⟨Row.none, fun _ h => by simp at h⟩, rfl⟩
end Go.Proofs.YteimjjpigohnhaaGreat
