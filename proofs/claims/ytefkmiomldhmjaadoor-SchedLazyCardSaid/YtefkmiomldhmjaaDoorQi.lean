/- Several texts in one. -/
import Derived.Test.YtefkmiomldhmjaaDoorQh
/- The law of laziness. -/
namespace Go.Proofs.YtefkmiomldhmjaaDoor
open Go.Sl
variable {S : Nat → Prop} {w0 : World} {η : Heap}
def askN (x : InstD) : InstD := ⟨x.sa, x.sets, x.sc, none, [], 0⟩
def askO (b : Nat) (o : Int) (x : InstD) : InstD := ⟨x.sa, x.sets, x.sc, some ⟨b, 0, none⟩, [o], 1⟩
def askT (k : Nat) (l : List InstD) : List InstD := (l.take k).map askN ++ l.drop k
theorem askT_end (l : List InstD) : askT l.length l = l.map askN := by unfold askT; simp
theorem askT_flat {l : List InstD} {k : Nat} (hk : k < l.length) : (askT (k + 1) l).flatMap InstD.cells = ((askT k l).flatMap InstD.cells).set (k * 2 + 1) (.slice none 0 0) := by
  have h := set_mid icl ((l.take k).map askN) l[k] (askN l[k]) (l.drop (k + 1)) (j := 1) (v := .slice none 0 0) (by decide) rfl
  rw [List.length_map, List.length_take, Nat.min_eq_left (by omega)] at h
  unfold askT
  rw [List.take_succ_eq_append_getElem hk, List.map_append, drop_step hk, h]
  simp
theorem instE_askN {l : List NodeD} {x : InstD} (h : instE l x = 0) : instE l (askN x) = 0 := by
  obtain ⟨h1, _, h3, _⟩ := instE_ok h
  unfold instE
  rw [if_pos ⟨h1, by show 0 ≤ 10; omega⟩, if_pos (by rw [Bool.and_eq_true]; exact ⟨h3, rfl⟩)]
theorem instE_askO {l : List NodeD} {x : InstD} {b : Nat} {o : Int} (h : instE l x = 0) (ho : 0 ≤ o ∧ o < l.length) : instE l (askO b o x) = 0 := by
  obtain ⟨h1, _, h3, _⟩ := instE_ok h
  unfold instE
  rw [if_pos ⟨h1, by show 1 ≤ 10; omega⟩, if_pos]
  rw [Bool.and_eq_true]
  refine ⟨h3, List.all_eq_true.2 fun a ha => ?_⟩
  have : a = o := List.mem_singleton.1 ha
  subst this; exact inN_iff.2 ho
theorem MadeOk.asks {l : List NodeD} {all : List InstD} (h : MadeOk l all) : MadeOk l (all.map askN) := by
  refine ⟨h.item, h.lo, h.hi, by rw [List.length_map]; exact h.al, fun x hx => ?_⟩
  obtain ⟨y, hy, rfl⟩ := List.mem_map.1 hx
  exact instE_askN (h.io y hy)
theorem ia_asks (all : List InstD) (k : Nat) : (ia (all.map askN) k).asks = [] := by
  unfold ia
  rw [List.getD_eq_getElem?_getD, List.getElem?_map]
  cases all[k]? <;> rfl
/-- The last instant asks for one node. -/
theorem MadeOk.last {l : List NodeD} {all : List InstD} (h : MadeOk l all) {m : Nat} (hm : all.length = m + 1) {b : Nat} {o : Int} (ho : 0 ≤ o ∧ o < l.length) : MadeOk l (all.take m ++ [askO b o (all[m]'(by omega))]) := by
  refine ⟨h.item, h.lo, h.hi, ?_, fun x hx => ?_⟩
  · have := h.al; simp; omega
  · rcases List.mem_append.1 hx with hx | hx
    · exact h.io x (List.mem_of_mem_take hx)
    · rw [List.mem_singleton.1 hx]; exact instE_askO (h.io _ (List.getElem_mem _)) ho
theorem last_cells {all : List InstD} {m : Nat} (hm : all.length = m + 1) (b : Nat) (o : Int) : (all.flatMap InstD.cells).set (0 + m * 2 + 1) (.slice (some ⟨b, 0, none⟩) 1 1) = (all.take m ++ [askO b o (all[m]'(by omega))]).flatMap InstD.cells := by
  have h := set_mid icl (all.take m) (all[m]'(by omega)) (askO b o (all[m]'(by omega))) [] (j := 1) (v := .slice (some ⟨b, 0, none⟩) 1 1) (by decide) rfl
  rw [List.length_take, Nat.min_eq_left (by omega)] at h
  rw [← h, Nat.zero_add]
  congr 2
  have : all.drop m = [all[m]'(by omega)] := by rw [drop_step (by omega), List.drop_eq_nil_of_le (by omega)]
  rw [← this, List.take_append_drop]

set_option maxHeartbeats 2000000 in
theorem SchedLazy_fn {a b : Option Addr} {xs ys : List Nat} {c d : Nat} (hg : Kinds S w0) (hx : Row S w0 [] a (n32 xs)) (hy : Row S w0 [] b (n32 ys)) (hxl : xs.length < 2 ^ 63) (hyl : ys.length < 2 ^ 63) (hxc : xs.length ≤ c) (hyc : ys.length ≤ d) (hxb : ∀ n ∈ xs, n < 4294967296) (hyb : ∀ n ∈ ys, n < 4294967296) {mz : Nat} (hmz : mz < 256) :
    Rt Tryd.prog 8 [.slice a xs.length c, .slice b ys.length d, .int .u8 (mz : Int)].toArray S w0 [] (fun v _ => v = .bool true) := by
  have hF := open_wide
  refine Rt.of (fn := Tryd.f8) Tryd.func8 rfl rfl ?_
  refine T.seq ?_
  refine T.region ?_
  refine TL.assign hF rfl rfl ?_
  refine TL.nil ?_
  refine TQ.then_n ?_
  refine T.seq ?_
  refine T.region ?_
  refine TL.move hF rfl rfl ?_
  refine TL.move hF rfl rfl ?_
  refine TL.call hF (made_fn hx hy hxl hyl hxc hyc hxb hyb) rfl rfl ?_
  rintro _ _ ⟨l, all, la, lc, lg, ia', ic, ig, ins, rfl, rfl, hm, hol, hoi, hfr, hir⟩
  have hb := Back.refl S w0
  refine TL.move hF rfl rfl ?_
  refine TL.extract hF rfl rfl rfl ?_
  refine TL.extract hF rfl rfl rfl ?_
  refine TL.assign hF rfl rfl ?_
  refine TL.assign hF rfl rfl ?_
  refine TL.nil ?_
  refine TQ.then_n ?_
  refine T.seq ?_
  refine T.seq ?_
  refine T.region ?_
  refine TL.move hF rfl rfl ?_
  refine TL.len hF rfl rfl ?_
  refine TL.move hF rfl rfl ?_
  refine TL.nil ?_
  refine TQ.then_n ?_
  refine T.block ?_
  have hpos := hm.lo
  have hlen := hm.hi
  have halen := hm.al
  have hlcap := osl_cap hol
  have hicap := osl_cap hoi
  obtain ⟨g, lc2, cur, hv, rfl, hsz⟩ := hol.ex (by omega)
  simp only [Value.slice.injEq, true_and] at hv
  obtain ⟨rfl, rfl⟩ := hv
  refine T.loop (ι := Nat × Array Value) (fun i => i.1 ≤ l.length ∧ OSl 55 4 (.slice (some ⟨g, 0, none⟩) l.length lc) l.length ((eagT false i.1 l).flatMap NodeD.cells) [(g, .cells i.2 55 (0, 0))]) (fun i => [(2, .int .u8 (mz : Int)), (6, .bool false), (7, .slice (some ⟨g, 0, none⟩) l.length lc), (8, .slice ia' all.length ic), (34, .int .i64 (l.length : Int)), (35, .int .i64 (i.1 : Int))]) (fun i => ig :: [(g, Obj.cells i.2 55 (0, 0))] :: (ins ++ [])) (fun i => l.length - i.1) (0, cur) ⟨Nat.zero_le _, by simpa [eagT] using hol⟩ ⟨rfl, rfl, rfl, rfl, rfl, rfl, trivial⟩ rfl ?_
  rintro ⟨k, cur⟩ ⟨hk, hol⟩
  dsimp only at hk hol
  refine T.seq ?_
  refine T.region ?_
  refine TL.bin hF rfl rfl rfl rfl ?_
  refine TL.nil ?_
  refine TQ.then_n ?_
  refine T.seq ?_
  first | refine T.cond_d rfl (fun ht36 => ?_) (fun ht36 => ?_) | refine T.cond _ rfl (fun ht36 => ?_) (fun ht36 => ?_)
  · refine T.skip ?_
    refine TQ.then_n ?_
    refine T.seq ?_
    refine T.block ?_
    refine T.seq ?_
    refine T.region ?_
    refine TL.move hF rfl rfl ?_
    refine TL.assign hF rfl rfl ?_
    refine TL.nil ?_
    refine TQ.then_n ?_
    refine T.region ?_
    refine TL.move hF rfl rfl ?_
    refine TL.move hF rfl rfl ?_
    refine TL.indexAddr hF rfl rfl ⟨_, rfl, rfl⟩ (by omega) (by omega) rfl ?_
    refine TL.fieldAddr hF rfl rfl ?_
    refine TL.storeI hF 1 rfl rfl rfl rfl (by have := osl_size hol; simp; omega) ?_
    refine TL.nil ?_
    refine TQ.block_n ?_
    refine TQ.then_n ?_
    refine T.region ?_
    refine TL.add hF rfl rfl (by omega) (by omega) rfl ?_
    refine TL.move hF rfl rfl ?_
    refine TL.nil ?_
    have hkl : k < l.length := by omega
    refine TQ.round (k + 1, cur.setIfInBounds (k * 4 + 3) (.bool false)) ⟨by dsimp only; omega, ?_⟩ (by dsimp only; omega) ⟨rfl, rfl, rfl, rfl, rfl, rfl, trivial⟩ (by simp)
    dsimp only
    rw [eagT_flat false hkl]
    exact hol.put
  · refine T.exit ?_
    refine TQ.then_x ?_
    refine TQ.then_x ?_
    refine TQ.block_x ?_
    refine TQ.then_n ?_
    refine T.seq ?_
    refine T.seq ?_
    refine T.region ?_
    refine TL.move hF rfl rfl ?_
    refine TL.len hF rfl rfl ?_
    refine TL.move hF rfl rfl ?_
    refine TL.nil ?_
    refine TQ.then_n ?_
    refine T.block ?_
    have hkn : k = l.length := by omega
    subst hkn
    rw [eagT_end] at hol
    have hm2 := hm.eag false
    have hlenL : (l.map (eagN false)).length = l.length := List.length_map _
    have hfr2 : ∀ x ∈ l.map (eagN false), Row S w0 ins x.fa (ints x.fr) := fun x hx => by obtain ⟨y, hy, rfl⟩ := List.mem_map.1 hx; exact hfr y hy
    have hee : ∀ i, i < (l.map (eagN false)).length → (nd (l.map (eagN false)) i).eager = false := fun i hi => by rw [nd_eq hi, List.getElem_map]; rfl
    rw [← hlenL] at hol hlcap ⊢
    generalize l.map (eagN false) = L at hol hm2 hfr2 hee hlenL hlcap ⊢
    clear hm hfr
    have hm := hm2
    clear hm2
    refine T.loop (ι := Nat × Seg) (fun i => i.1 ≤ all.length ∧ OSl 50 2 (.slice ia' all.length ic) all.length ((askT i.1 all).flatMap InstD.cells) i.2) (fun i => [(2, .int .u8 (mz : Int)), (6, .bool false), (7, .slice (some ⟨g, 0, none⟩) L.length lc), (8, .slice ia' all.length ic), (44, .int .i64 (all.length : Int)), (45, .int .i64 (i.1 : Int))]) (fun i => i.2 :: [(g, Obj.cells cur 55 (0, 0))] :: (ins ++ [])) (fun i => all.length - i.1) (0, ig) ⟨Nat.zero_le _, by simpa [askT] using hoi⟩ ⟨rfl, rfl, rfl, rfl, rfl, rfl, trivial⟩ rfl ?_
    rintro ⟨k, ig2⟩ ⟨hk, hoi⟩
    dsimp only at hk hoi
    refine T.seq ?_
    refine T.region ?_
    refine TL.bin hF rfl rfl rfl rfl ?_
    refine TL.nil ?_
    refine TQ.then_n ?_
    refine T.seq ?_
    first | refine T.cond_d rfl (fun ht46 => ?_) (fun ht46 => ?_) | refine T.cond _ rfl (fun ht46 => ?_) (fun ht46 => ?_)
    · refine T.skip ?_
      refine TQ.then_n ?_
      refine T.seq ?_
      refine T.block ?_
      refine T.seq ?_
      refine T.region ?_
      refine TL.move hF rfl rfl ?_
      refine TL.assign hF rfl rfl ?_
      refine TL.nil ?_
      refine TQ.then_n ?_
      refine T.region ?_
      refine TL.move hF rfl rfl ?_
      refine TL.move hF rfl rfl ?_
      have hkl : k < all.length := by omega
      obtain ⟨g2, ic2, cur2, hv2, rfl, hsz2⟩ := hoi.ex (by omega)
      simp only [Value.slice.injEq, true_and] at hv2
      obtain ⟨rfl, rfl⟩ := hv2
      refine TL.indexAddr hF rfl rfl ⟨_, rfl, rfl⟩ (by omega) (by omega) rfl ?_
      refine TL.fieldAddr hF rfl rfl ?_
      refine TL.storeI hF 0 rfl rfl rfl rfl (by have := osl_size hoi; simp; omega) ?_
      refine TL.nil ?_
      refine TQ.block_n ?_
      refine TQ.then_n ?_
      refine T.region ?_
      refine TL.add hF rfl rfl (by omega) (by omega) rfl ?_
      refine TL.move hF rfl rfl ?_
      refine TL.nil ?_
      refine TQ.round (k + 1, [(g2, Obj.cells (cur2.setIfInBounds (k * 2 + 1) (.slice none 0 0)) 50 (0, 0))]) ⟨by dsimp only; omega, ?_⟩ (by dsimp only; omega) ⟨rfl, rfl, rfl, rfl, rfl, rfl, trivial⟩ (by simp)
      dsimp only
      rw [askT_flat hkl]
      exact hoi.put
    · refine T.exit ?_
      refine TQ.then_x ?_
      refine TQ.then_x ?_
      refine TQ.block_x ?_
      refine TQ.then_n ?_
      refine T.seq ?_
      refine T.region ?_
      refine TL.move hF rfl rfl ?_
      refine TL.move hF rfl rfl ?_
      have hkn2 : k = all.length := by omega
      subst hkn2
      rw [askT_end] at hoi
      have hm2 := hm.asks
      have hlenA : (all.map askN).length = all.length := List.length_map _
      have hir2 : ∀ x ∈ all.map askN, Row S w0 ins x.sa (x.sets.flatMap SetD.cells) ∧ Row S w0 ins x.aa (ints x.asks) := fun x hx => by
        obtain ⟨y, hy, rfl⟩ := List.mem_map.1 hx; exact ⟨(hir y hy).1, Row.none⟩
      have haz : ∀ k, (ia (all.map askN) k).asks = [] := ia_asks all
      rw [← hlenA] at hoi hicap halen ⊢
      generalize all.map askN = M at hoi hm2 hir2 haz hlenA hicap halen ⊢
      clear hm hir
      have hm := hm2
      clear hm2
      have hr := hm.rn
      have hok := hr.ok
      have hlen := hm.hi
      have hlo := hm.lo
      have hn : Nodes S w0 (ig2 :: [(g, Obj.cells cur 55 (0, 0))] :: ins) (some ⟨g, 0, none⟩) L := ⟨hol.row (by simp), fun x hx => (hfr2 x hx).up (fun z hz => by simp [hz])⟩
      have hi : Insts S w0 (ig2 :: [(g, Obj.cells cur 55 (0, 0))] :: ins) ia' M := ⟨hoi.row (by simp), fun x hx => (hir2 x hx).1.up (fun z hz => by simp [hz]), fun x hx => (hir2 x hx).2.up (fun z hz => by simp [hz])⟩
      refine TL.freeze (ig2 :: [(g, Obj.cells cur 55 (0, 0))] :: ins) rfl (fun S1 w1 hz1 => ?_)
      refine TL.call hF (Looked_made (sa := none) (pick := []) (sc := 0) (hg.old hz1) (hn.frz hz1) (hi.frz hz1) Row.none hm (hm.check (pick := []) (by simp) (by simp))) rfl rfl ?_
      rintro _ _ ⟨rfl, s98, rfl⟩
      refine TL.hsub [] (List.nil_sublist _) ?_
      refine TL.thaw hz1 ?_
      have hlz := hr.lazy [] hee (fun k _ => haz k)
      rw [hlz.1, hlz.2]
      refine TL.move hF rfl rfl ?_
      refine TL.extract hF rfl rfl rfl ?_
      refine TL.extract hF rfl rfl rfl ?_
      refine TL.extract hF rfl rfl rfl ?_
      refine TL.assign hF rfl rfl ?_
      refine TL.assign hF rfl rfl ?_
      refine TL.assign hF rfl rfl ?_
      refine TL.nil ?_
      refine TQ.then_n ?_
      refine T.seq ?_
      refine T.seq ?_
      refine T.region ?_
      refine TL.move hF rfl rfl ?_
      refine TL.bin hF rfl rfl rfl rfl ?_
      refine TL.move hF rfl rfl ?_
      refine TL.on rfl rfl rfl rfl ?_
      refine TL.move hF rfl rfl ?_
      refine TL.on rfl rfl rfl rfl ?_
      refine TL.bin hF rfl rfl rfl rfl ?_
      refine TL.pickF hF rfl rfl rfl rfl ?_
      refine TL.move hF rfl rfl ?_
      refine TL.on rfl rfl rfl rfl ?_
      refine TL.move hF rfl rfl ?_
      refine TL.on rfl rfl rfl rfl ?_
      refine TL.bin hF rfl rfl rfl rfl ?_
      refine TL.pickF hF rfl rfl rfl rfl ?_
      refine TL.nil ?_
      refine TQ.then_n ?_
      refine T.cond_f rfl rfl ?_
      refine T.skip ?_
      refine TQ.then_n ?_
      refine T.seq ?_
      refine T.seq ?_
      refine T.region ?_
      refine TL.move hF rfl rfl ?_
      refine TL.len hF rfl rfl ?_
      refine TL.bin hF rfl rfl rfl rfl ?_
      refine TL.nil ?_
      refine TQ.then_n ?_
      first | refine T.cond_d rfl (fun ht72 => ?_) (fun ht72 => ?_) | refine T.cond _ rfl (fun ht72 => ?_) (fun ht72 => ?_)
      · refine T.seq ?_
        refine T.region ?_
        refine TL.hsub [] (List.nil_sublist _) ?_
        refine TL.call hF (awake_fn hg) rfl rfl ?_
        rintro _ _ rfl
        refine TL.assign hF rfl rfl ?_
        refine TL.nil ?_
        refine TQ.then_n ?_
        refine T.ret ?_
        refine TQ.then_r ?_
        exact TQ.retsF [6] _ hb rfl rfl rfl (fun _ => rfl)
      · refine T.skip ?_
        refine TQ.then_n ?_
        refine T.seq ?_
        refine T.region ?_
        refine TL.move hF rfl rfl ?_
        refine TL.convK hF rfl (wrapN0 (by omega)) rfl ?_
        refine TL.move hF rfl rfl ?_
        refine TL.len hF rfl rfl ?_
        refine TL.remN (a := mz) (b := L.length) hF rfl rfl (by omega) rfl ?_
        refine TL.assign hF rfl rfl ?_
        refine TL.nil ?_
        refine TQ.then_n ?_
        refine T.seq ?_
        refine T.region ?_
        refine TL.move hF rfl rfl ?_
        refine TL.move hF rfl rfl ?_
        obtain ⟨mm, hmm⟩ : ∃ mm, M.length = mm + 1 := ⟨M.length - 1, by omega⟩
        obtain ⟨g2, ic2, cur2, hv2, rfl, hsz2⟩ := hoi.ex (by omega)
        simp only [Value.slice.injEq, true_and] at hv2
        obtain ⟨rfl, rfl⟩ := hv2
        have hown : mz % L.length < L.length := Nat.mod_lt _ (by omega)
        generalize mz % L.length = own at hown ⊢
        refine TL.len hF rfl rfl ?_
        refine TL.sub hF rfl rfl (by omega) (by omega) rfl ?_
        refine TL.move hF rfl rfl ?_
        refine TL.buildSlice hF rfl (cs := #[.int .i64 (own : Int)]) (e := 3) (fun w => by kernel_rfl) rfl (fun b84 => ?_)
        refine TL.indexAddr hF rfl rfl ⟨_, rfl, rfl⟩ (by omega) (by omega) rfl ?_
        refine TL.fieldAddr hF rfl rfl ?_
        refine TL.storeI hF 1 rfl rfl rfl rfl (by have := osl_size hoi; simp; omega) ?_
        refine TL.nil ?_
        refine TQ.then_n ?_
        refine T.seq ?_
        refine T.region ?_
        refine TL.move hF rfl rfl ?_
        refine TL.move hF rfl rfl ?_
        have hst : ((M.length : Int) - 1).toNat = mm := by omega
        have hoN := hoi.put (j := 0 + mm * 2 + 1) (u := .slice (some ⟨b84, 0, none⟩) 1 1)
        have hmN := hm.last hmm (b := b84) (o := (own : Int)) ⟨by omega, by omega⟩
        rw [last_cells hmm b84 (own : Int)] at hoN
        obtain ⟨y, hy⟩ : ∃ y, y = askO b84 (own : Int) (M[mm]'(by omega)) := ⟨_, rfl⟩
        rw [← hy] at hoN hmN
        obtain ⟨NN, hNN⟩ : ∃ NN, NN = M.take mm ++ [y] := ⟨_, rfl⟩
        rw [← hNN] at hoN hmN
        have hlN : NN.length = M.length := by rw [hNN]; simp; omega
        have hyr : Row S w0 ([(b84, Obj.cells #[.int .i64 (own : Int)] 3 (0, 0))] :: ins) y.sa (y.sets.flatMap SetD.cells) ∧ Row S w0 ([(b84, Obj.cells #[.int .i64 (own : Int)] 3 (0, 0))] :: ins) y.aa (ints y.asks) := by
          rw [hy]; exact ⟨(hir2 _ (List.getElem_mem _)).1.up (fun z hz => upc _ hz), row_own (cs := ints [(own : Int)]) (e := 3) List.mem_cons_self⟩
        have hirN : ∀ x ∈ NN, Row S w0 ([(b84, Obj.cells #[.int .i64 (own : Int)] 3 (0, 0))] :: ins) x.sa (x.sets.flatMap SetD.cells) ∧ Row S w0 ([(b84, Obj.cells #[.int .i64 (own : Int)] 3 (0, 0))] :: ins) x.aa (ints x.asks) := fun x hx => by
          rw [hNN] at hx
          rcases List.mem_append.1 hx with hx | hx
          · have := hir2 x (List.mem_of_mem_take hx); exact ⟨this.1.up (fun z hz => upc _ hz), this.2.up (fun z hz => upc _ hz)⟩
          · rw [List.mem_singleton.1 hx]; exact hyr
        have haN : ∀ k, k < mm → (ia NN k).asks = [] := fun k hk => by
          have := haz k
          unfold ia at this ⊢
          rw [List.getD_eq_getElem?_getD] at this ⊢
          rw [hNN, List.getElem?_append_left (by simp; omega), List.getElem?_take, if_pos hk]; exact this
        have hNm : NN[mm]? = some y := by
          rw [hNN, List.getElem?_append_right (by simp; omega)]; simp [Nat.min_eq_left (show mm ≤ M.length by omega)]
        have hyk : y.asks = [(own : Int)] := by rw [hy]; rfl
        clear hNN hy hyr
        have hoN2 : OSl 50 2 (.slice (some ⟨g2, 0, none⟩) NN.length ic) NN.length (NN.flatMap InstD.cells) [(g2, .cells (cur2.setIfInBounds (0 + mm * 2 + 1) (.slice (some ⟨b84, 0, none⟩) 1 1)) 50 (0, 0))] := by rw [hlN]; exact hoN
        have hicap2 := osl_cap hoN2
        clear hicap
        have hicap := hicap2
        rw [hst]
        rw [← hlN]
        rw [← hlN] at hmm halen
        clear hoN hoi hm hlenA hir2 haz hi hn hr hok hlz hicap2 hst hlN
        have hm := hmN
        clear hmN
        have hr := hm.rn
        have hok := hr.ok
        have hn : Nodes S w0 ([(b84, Obj.cells #[.int .i64 (own : Int)] 3 (0, 0))] :: [(g2, Obj.cells (cur2.setIfInBounds (0 + mm * 2 + 1) (.slice (some ⟨b84, 0, none⟩) 1 1)) 50 (0, 0))] :: [(g, Obj.cells cur 55 (0, 0))] :: ins) (some ⟨g, 0, none⟩) L := ⟨hol.row (by simp), fun x hx => (hfr2 x hx).up (fun z hz => by simp [hz])⟩
        have hi : Insts S w0 ([(b84, Obj.cells #[.int .i64 (own : Int)] 3 (0, 0))] :: [(g2, Obj.cells (cur2.setIfInBounds (0 + mm * 2 + 1) (.slice (some ⟨b84, 0, none⟩) 1 1)) 50 (0, 0))] :: [(g, Obj.cells cur 55 (0, 0))] :: ins) (some ⟨g2, 0, none⟩) NN := ⟨hoN2.row (by simp), fun x hx => (hirN x hx).1.up (fun z hz => by simp at hz ⊢; rcases hz with h | h <;> simp [h]), fun x hx => (hirN x hx).2.up (fun z hz => by simp at hz ⊢; rcases hz with h | h <;> simp [h])⟩
        refine TL.freeze ([(b84, Obj.cells #[.int .i64 (own : Int)] 3 (0, 0))] :: [(g2, Obj.cells (cur2.setIfInBounds (0 + mm * 2 + 1) (.slice (some ⟨b84, 0, none⟩) 1 1)) 50 (0, 0))] :: [(g, Obj.cells cur 55 (0, 0))] :: ins) rfl (fun S2 w2 hz2 => ?_)
        have hb := hb.frz hz2
        have hg := hg.old hz2
        have hn := hn.frz hz2
        have hi := hi.frz hz2
        clear hoN2 hol hfr2 hirN
        have hck := hm.check (pick := []) (by simp) (by simp)
        refine TL.call hF (Asked_made (sa := none) (pick := []) (sc := 0) hg hn hi Row.none hm hck) rfl rfl ?_
        rintro _ _ ⟨aa, ac, s4, rfl, rfl, hA⟩
        refine TL.freeze s4 rfl (fun S4 w4 hz4 => ?_)
        have hb := hb.frz hz4
        have hg := hg.old hz4
        have hn := hn.old hz4
        have hi := hi.old hz4
        have hA := hA.frz hz4
        refine TL.move hF rfl rfl ?_
        refine TL.extract hF rfl rfl rfl ?_
        refine TL.extract hF rfl rfl rfl ?_
        refine TL.assign hF rfl rfl ?_
        refine TL.assign hF rfl rfl ?_
        refine TL.nil ?_
        refine TQ.then_n ?_
        refine T.seq ?_
        refine T.region ?_
        refine TL.move hF rfl rfl ?_
        refine TL.move hF rfl rfl ?_
        refine TL.move hF rfl rfl ?_
        refine TL.move hF rfl rfl ?_
        refine TL.len hF rfl rfl ?_
        refine TL.sub hF rfl rfl (by omega) (by omega) rfl ?_
        rw [show ((NN.length : Int) - 1) = ((mm : Nat) : Int) by omega]
        refine TL.call hF (inputs_fn (now := mm) hn hi hr (by omega) hicap (by omega)) rfl rfl ?_
        rintro _ _ ⟨qa, qc, sg, rfl, rfl, hq⟩
        refine TL.call hF (Scratch_at (k := mm + 1) hg hn hm (by omega) hq) rfl rfl ?_
        rintro _ _ ⟨wa, wc, ws, rfl, rfl, hw⟩
        refine TL.freeze (sg :: ws) rfl (fun S5 w5 hz5 => ?_)
        have hb := hb.frz hz5
        have hg := hg.old hz5
        have hn := hn.old hz5
        have hi := hi.old hz5
        have hA := hA.old hz5
        have hw := hw.frz hz5
        refine TL.move hF rfl rfl ?_
        refine TL.extract hF rfl rfl rfl ?_
        refine TL.extract hF rfl rfl rfl ?_
        refine TL.assign hF rfl rfl ?_
        refine TL.assign hF rfl rfl ?_
        refine TL.nil ?_
        refine TQ.then_n ?_
        refine T.seq ?_
        refine T.region ?_
        refine TL.move hF rfl rfl ?_
        refine TL.move hF rfl rfl ?_
        refine TL.call hF (Run_made (sa := none) (pick := []) (sc := 0) hg hn hi Row.none hm hck) rfl rfl ?_
        rintro _ _ ⟨da, dc, s6, rfl, rfl, hdc, hd⟩
        refine TL.freeze s6 rfl (fun S6 w6 hz6 => ?_)
        have hb := hb.frz hz6
        have hg := hg.old hz6
        have hn := hn.old hz6
        have hi := hi.old hz6
        have hA := hA.old hz6
        have hw := hw.old hz6
        have hd := hd.frz hz6
        have hlast := hr.lazyLast [] hmm hee haN
        have hdl := told_dlen hm []
        have hAl := asked_len L NN []
        have hAt := hr.asked_at [] (k := mm) (by omega)
        have hyg : NN[mm]'(by omega) = y := Option.some.inj ((List.getElem?_eq_getElem _).symm.trans hNm)
        have hye : ia NN mm = y := by rw [ia_eq (by omega)]; exact hyg
        rw [hyg, hyk] at hAt
        rw [hye, hyk] at hlast
        generalize askedOf NN (toldS L NN []).2.2 = AL at hA hAl hAt ⊢
        generalize (toldS L NN []).1 = D at hd hlast hdl hdc ⊢
        obtain ⟨hcnt, hlt⟩ := hlast
        obtain ⟨fA, hfA, hadA⟩ := hA.item
        have hAg : AL[mm]'(by omega) = [VP L NN (mm + 1) own] := Option.some.inj ((List.getElem?_eq_getElem _).symm.trans hAt)
        have hfm := hfA mm (by omega)
        rw [hAg] at hfm
        refine TL.move hF rfl rfl ?_
        refine TL.extract hF rfl rfl rfl ?_
        refine TL.extract hF rfl rfl rfl ?_
        refine TL.assign hF rfl rfl ?_
        refine TL.assign hF rfl rfl ?_
        refine TL.nil ?_
        refine TQ.then_n ?_
        refine T.seq ?_
        refine T.seq ?_
        refine T.drawH 38 mixed ?_
        refine DH.pure (i := 0) [(16, _, none)] rfl rfl rfl rfl ⟨⟨rfl, by kernel_rfl⟩, trivial⟩ (fun _ ext => TL.move hF rfl rfl TL.fin) ?_
        refine DH.pure (i := 1) [(110, _, some 0)] rfl rfl rfl rfl ⟨⟨rfl, rfl, rfl⟩, trivial⟩ (fun _ ext => TL.bin hF rfl rfl rfl rfl TL.fin) ?_
        refine DH.pure (i := 2) [(111, _, some 1)] rfl rfl rfl rfl ⟨⟨rfl, rfl, rfl⟩, trivial⟩ (fun _ ext => TL.move hF rfl rfl TL.fin) ?_
        refine DH.pure (i := 3) [(18, _, none), (112, _, some 2)] rfl rfl rfl rfl ⟨⟨rfl, by kernel_rfl⟩, ⟨rfl, rfl, rfl⟩, trivial⟩ (fun _ ext => TL.on rfl rfl rfl rfl <| TL.move hF rfl rfl TL.fin) ?_
        refine DH.pure (i := 4) [(16, _, none), (112, _, some 2)] rfl rfl rfl rfl ⟨⟨rfl, by kernel_rfl⟩, ⟨rfl, rfl, rfl⟩, trivial⟩ (fun _ ext => TL.on rfl rfl rfl rfl <| TL.move hF rfl rfl TL.fin) ?_
        refine DH.pure (i := 5) [(113, _, some 3), (114, _, some 4), (112, _, some 2)] rfl rfl rfl rfl ⟨⟨rfl, rfl, rfl⟩, ⟨rfl, rfl, rfl⟩, ⟨rfl, rfl, rfl⟩, trivial⟩ (fun _ ext => TL.on rfl rfl rfl rfl <| TL.bin hF rfl rfl rfl rfl TL.fin) ?_
        refine DH.pure (i := 6) [(112, _, some 2), (115, _, some 5)] rfl rfl rfl rfl ⟨⟨rfl, rfl, rfl⟩, ⟨rfl, rfl, rfl⟩, trivial⟩ (fun _ ext => TL.pickF hF rfl rfl rfl rfl TL.fin) ?_
        refine DH.pure (i := 7) [(116, _, some 6)] rfl rfl rfl rfl ⟨⟨rfl, rfl, rfl⟩, trivial⟩ (fun _ ext => TL.move hF rfl rfl TL.fin) ?_
        refine DH.pure (i := 8) [(20, _, none), (117, _, some 7)] rfl rfl rfl rfl ⟨⟨rfl, by kernel_rfl⟩, ⟨rfl, rfl, rfl⟩, trivial⟩ (fun _ ext => TL.on rfl rfl rfl rfl <| TL.move hF rfl rfl TL.fin) ?_
        refine DH.pure (i := 9) [(16, _, none), (117, _, some 7)] rfl rfl rfl rfl ⟨⟨rfl, by kernel_rfl⟩, ⟨rfl, rfl, rfl⟩, trivial⟩ (fun _ ext => TL.on rfl rfl rfl rfl <| TL.move hF rfl rfl TL.fin) ?_
        refine DH.pure (i := 10) [(118, _, some 8), (119, _, some 9), (117, _, some 7)] rfl rfl rfl rfl ⟨⟨rfl, rfl, rfl⟩, ⟨rfl, rfl, rfl⟩, ⟨rfl, rfl, rfl⟩, trivial⟩ (fun _ ext => TL.on rfl rfl rfl rfl <| TL.bin hF rfl rfl rfl rfl TL.fin) ?_
        refine DH.pure (i := 11) [(117, _, some 7), (120, _, some 10)] rfl rfl rfl rfl ⟨⟨rfl, rfl, rfl⟩, ⟨rfl, rfl, rfl⟩, trivial⟩ (fun _ ext => TL.pickF hF rfl rfl rfl rfl TL.fin) ?_
        refine DH.pure (i := 12) [(121, _, some 11)] rfl rfl rfl rfl ⟨⟨rfl, rfl, rfl⟩, trivial⟩ (fun _ ext => TL.move hF rfl rfl TL.fin) ?_
        refine DH.pure (i := 13) [(15, _, none), (122, _, some 12)] rfl rfl rfl rfl ⟨⟨rfl, by kernel_rfl⟩, ⟨rfl, rfl, rfl⟩, trivial⟩ (fun _ ext => TL.on rfl rfl rfl rfl <| TL.move hF rfl rfl TL.fin) ?_
        refine DH.pure (i := 14) [(123, _, some 13), (122, _, some 12)] rfl rfl rfl rfl ⟨⟨rfl, rfl, rfl⟩, ⟨rfl, rfl, rfl⟩, trivial⟩ (fun _ ext => TL.on rfl rfl rfl rfl <| TL.len hF rfl rfl TL.fin) ?_
        refine DH.pure (i := 15) [(8, _, none), (122, _, some 12)] rfl rfl rfl rfl ⟨⟨rfl, by kernel_rfl⟩, ⟨rfl, rfl, rfl⟩, trivial⟩ (fun _ ext => TL.on rfl rfl rfl rfl <| TL.move hF rfl rfl TL.fin) ?_
        refine DH.pure (i := 16) [(125, _, some 15), (122, _, some 12)] rfl rfl rfl rfl ⟨⟨rfl, rfl, rfl⟩, ⟨rfl, rfl, rfl⟩, trivial⟩ (fun _ ext => TL.on rfl rfl rfl rfl <| TL.len hF rfl rfl TL.fin) ?_
        refine DH.pure (i := 17) [(124, _, some 14), (126, _, some 16), (122, _, some 12)] rfl rfl rfl rfl ⟨⟨rfl, rfl, rfl⟩, ⟨rfl, rfl, rfl⟩, ⟨rfl, rfl, rfl⟩, trivial⟩ (fun _ ext => TL.on rfl rfl rfl rfl <| TL.bin hF rfl rfl rfl rfl TL.fin) ?_
        refine DH.pure (i := 18) [(122, _, some 12), (127, _, some 17)] rfl rfl rfl rfl ⟨⟨rfl, rfl, rfl⟩, ⟨rfl, rfl, rfl⟩, trivial⟩ (fun _ ext => TL.pickF hF rfl rfl rfl rfl TL.fin) ?_
        refine DH.pure (i := 19) [(128, _, some 18)] rfl rfl rfl rfl ⟨⟨rfl, rfl, rfl⟩, trivial⟩ (fun _ ext => TL.move hF rfl rfl TL.fin) ?_
        refine DH.pure (i := 20) [(17, _, none), (129, _, some 19)] rfl rfl rfl rfl ⟨⟨rfl, by kernel_rfl⟩, ⟨rfl, rfl, rfl⟩, trivial⟩ (fun _ ext => TL.on rfl rfl rfl (by simp [hAl]) <| TL.move hF rfl rfl TL.fin) ?_
        refine DH.pure (i := 21) [(130, _, some 20), (129, _, some 19)] rfl rfl rfl rfl ⟨⟨rfl, rfl, rfl⟩, ⟨rfl, rfl, rfl⟩, trivial⟩ (fun _ ext => TL.on rfl rfl rfl (by simp [hAl]) <| TL.len hF rfl rfl TL.fin) ?_
        refine DH.pure (i := 22) [(7, _, none), (129, _, some 19)] rfl rfl rfl rfl ⟨⟨rfl, by kernel_rfl⟩, ⟨rfl, rfl, rfl⟩, trivial⟩ (fun _ ext => TL.on rfl rfl rfl (by simp [hAl]) <| TL.move hF rfl rfl TL.fin) ?_
        refine DH.pure (i := 23) [(132, _, some 22), (129, _, some 19)] rfl rfl rfl rfl ⟨⟨rfl, rfl, rfl⟩, ⟨rfl, rfl, rfl⟩, trivial⟩ (fun _ ext => TL.on rfl rfl rfl (by simp [hAl]) <| TL.len hF rfl rfl TL.fin) ?_
        refine DH.pure (i := 24) [(131, _, some 21), (133, _, some 23), (129, _, some 19)] rfl rfl rfl rfl ⟨⟨rfl, rfl, rfl⟩, ⟨rfl, rfl, rfl⟩, ⟨rfl, rfl, rfl⟩, trivial⟩ (fun _ ext => TL.on rfl rfl rfl (by simp [hAl]) <| TL.bin hF rfl rfl rfl rfl TL.fin) ?_
        refine DH.pure (i := 25) [(129, _, some 19), (134, _, some 24)] rfl rfl rfl rfl ⟨⟨rfl, rfl, rfl⟩, ⟨rfl, rfl, rfl⟩, trivial⟩ (fun _ ext => TL.pickF hF rfl (by simp [hAl]) rfl rfl TL.fin) ?_
        refine DH.pure (i := 26) [(135, _, some 25)] rfl rfl rfl rfl ⟨⟨rfl, rfl, rfl⟩, trivial⟩ (fun _ ext => TL.move hF rfl rfl TL.fin) ?_
        refine DH.pure (i := 27) [(15, _, none), (136, _, some 26)] rfl rfl rfl rfl ⟨⟨rfl, by kernel_rfl⟩, ⟨rfl, rfl, rfl⟩, trivial⟩ (fun _ ext => TL.on rfl rfl rfl (by simp) <| TL.move hF rfl rfl TL.fin) ?_
        refine DH.pure (i := 28) [(8, _, none), (136, _, some 26)] rfl rfl rfl rfl ⟨⟨rfl, by kernel_rfl⟩, ⟨rfl, rfl, rfl⟩, trivial⟩ (fun _ ext => TL.on rfl rfl rfl (by simp) <| TL.move hF rfl rfl TL.fin) ?_
        refine DH.pure (i := 29) [(138, _, some 28), (136, _, some 26)] rfl rfl rfl rfl ⟨⟨rfl, rfl, rfl⟩, ⟨rfl, rfl, rfl⟩, trivial⟩ (fun _ ext => TL.on rfl rfl rfl (by simp) <| TL.len hF rfl rfl TL.fin) ?_
        refine DH.pure (i := 30) [(139, _, some 29), (136, _, some 26)] rfl rfl rfl rfl ⟨⟨rfl, rfl, rfl⟩, ⟨rfl, rfl, rfl⟩, trivial⟩ (fun _ ext => TL.on rfl rfl rfl (by simp) <| TL.sub hF rfl rfl (by omega) (by omega) rfl TL.fin) ?_
        refine DH.pure (i := 31) [(137, _, some 27), (140, _, some 30), (136, _, some 26)] rfl rfl rfl rfl ⟨⟨rfl, rfl, rfl⟩, ⟨rfl, rfl, rfl⟩, ⟨rfl, rfl, rfl⟩, trivial⟩ (fun _ ext => TL.on rfl rfl rfl (by simp) <| TL.indexAddr hF rfl rfl (hadA mm (by omega)) (by omega) (by omega) rfl TL.fin) ?_
        refine DH.read (i := 32) [(141, _, some 31), (136, _, some 26)] rfl rfl rfl rfl ⟨⟨rfl, rfl, rfl⟩, ⟨rfl, rfl, rfl⟩, trivial⟩ (fun ext => TL.on rfl rfl rfl (by simp) <| TL.load hF rfl (v := .slice (fA mm).1 [VP L NN (mm + 1) own].length (fA mm).2) (by rw [show ((NN.length : Int) - 1).toNat = mm by omega]; exact hfm.1.up (by simp)) rfl TL.fin) ?_
        refine DH.pure (i := 33) [(17, _, none), (136, _, some 26)] rfl rfl rfl rfl ⟨⟨rfl, by kernel_rfl⟩, ⟨rfl, rfl, rfl⟩, trivial⟩ (fun _ ext => TL.on rfl rfl rfl (by simp) <| TL.move hF rfl rfl TL.fin) ?_
        refine DH.pure (i := 34) [(14, _, none), (136, _, some 26)] rfl rfl rfl rfl ⟨⟨rfl, by kernel_rfl⟩, ⟨rfl, rfl, rfl⟩, trivial⟩ (fun _ ext => TL.on rfl rfl rfl (by simp) <| TL.move hF rfl rfl TL.fin) ?_
        refine DH.pure (i := 35) [(143, _, some 33), (144, _, some 34), (136, _, some 26)] rfl rfl rfl rfl ⟨⟨rfl, rfl, rfl⟩, ⟨rfl, rfl, rfl⟩, ⟨rfl, rfl, rfl⟩, trivial⟩ (fun _ ext => TL.on rfl rfl rfl (by simp) <| TL.indexAddr hF rfl rfl (hw.adi (i := own) (by simp; omega)) (by omega) (by omega) rfl TL.fin) ?_
        refine DH.read (i := 36) [(145, _, some 35), (136, _, some 26)] rfl rfl rfl rfl ⟨⟨rfl, rfl, rfl⟩, ⟨rfl, rfl, rfl⟩, trivial⟩ (fun ext => TL.on rfl rfl rfl (by simp) <| TL.load hF rfl (v := .int .i64 (VP L NN (mm + 1) own)) (range_map_row (hw.up (by simp)) hown) rfl TL.fin) ?_
        refine DH.k1 (by kernel_rfl) (by kernel_rfl) (by kernel_rfl) (by kernel_rfl) (HBK.mk (h := 37) [32] [(146, _, some 36), (136, _, some 26)] rfl rfl rfl ⟨⟨rfl, rfl, rfl⟩, ⟨rfl, rfl, rfl⟩, trivial⟩ (by kernel_rfl) (fun ext => ?_))
        refine TL.on rfl rfl rfl (by simp) ?_
        refine TL.buildSlice hF rfl (cs := #[.int .i64 (VP L NN (mm + 1) own)]) (e := 3) (fun w => by kernel_rfl) rfl (fun b147 => ?_)
        refine TL.finK ⟨⟨_, rfl, _, _, [(141, _, some 31), (136, _, some 26)], rfl, rfl, ⟨⟨rfl, rfl, rfl⟩, ⟨rfl, rfl, rfl⟩, trivial⟩, fun ext => TL.on rfl rfl rfl (by simp) <| TL.load hF rfl (v := .slice (fA mm).1 [VP L NN (mm + 1) own].length (fA mm).2) (by rw [show ((NN.length : Int) - 1).toNat = mm by omega]; exact hfm.1.up (by simp)) rfl TL.fin⟩, trivial⟩ ?_
        refine DH.done [(147, _), (146, _), (145, _), (144, _), (143, _), (142, _), (141, _), (140, _), (139, _), (138, _), (137, _), (136, _), (135, _), (134, _), (133, _), (132, _), (131, _), (130, _), (129, _), (128, _), (127, _), (126, _), (125, _), (124, _), (123, _), (122, _), (121, _), (120, _), (119, _), (118, _), (117, _), (116, _), (115, _), (114, _), (113, _), (112, _), (111, _), (110, _)] [_, _, _] (by kernel_rfl) (by kernel_rfl) (by kernel_rfl) (by kernel_rfl) rfl rfl ?_
        refine TL.on rfl rfl rfl (by simp) ?_
        refine TL.callV hF (EqT_fn (hfm.2.up (by simp)) (row_own (cs := ints [VP L NN (mm + 1) own]) (e := 3) List.mem_cons_self) rfl (by simp)) rfl rfl ?_
        refine TL.on rfl rfl rfl (by simp) ?_
        refine TL.not hF rfl rfl ?_
        refine TL.pickF hF rfl (by simp) rfl rfl ?_
        refine TL.nil ?_
        refine TQ.then_n ?_
        refine T.cond_f rfl rfl ?_
        refine T.skip ?_
        refine TQ.then_n ?_
        refine T.seq ?_
        refine T.region ?_
        refine TL.move hF rfl rfl ?_
        refine TL.move hF rfl rfl ?_
        refine TL.move hF rfl rfl ?_
        refine TL.len hF rfl rfl ?_
        refine TL.sub hF rfl rfl (by omega) (by omega) rfl ?_
        refine TL.indexAddr hF rfl rfl (hi.ad (i := mm) (by omega)) (by omega) (by omega) rfl ?_
        refine TL.loadA hF y.cells rfl rfl (by rw [show ((NN.length : Int) - 1).toNat = mm by omega, ← hyg]; exact hi.ro.atA (i := mm) (by omega)) rfl ?_
        refine TL.hsub [] (List.nil_sublist _) ?_
        refine TL.call hF (Wanted_ref (x := y) hn hok (by rw [← hyg]; exact hi.arow (by omega)) (by rw [hyk]; simp)) rfl rfl ?_
        rintro _ _ ⟨nb, rfl, rfl⟩
        rw [hyk]
        refine TL.assign hF rfl rfl ?_
        refine TL.nil ?_
        refine TQ.then_n ?_
        refine T.seq ?_
        refine T.region ?_
        refine TL.assign hF rfl rfl ?_
        refine TL.nil ?_
        refine TQ.then_n ?_
        refine T.seq ?_
        refine T.seq ?_
        refine T.region ?_
        refine TL.move hF rfl rfl ?_
        refine TL.len hF rfl rfl ?_
        refine TL.move hF rfl rfl ?_
        refine TL.nil ?_
        refine TQ.then_n ?_
        refine T.block ?_
        obtain ⟨want, hwant⟩ : ∃ want, want = wantS L [(own : Int)] := ⟨_, rfl⟩
        rw [← hwant] at hcnt hlt ⊢
        refine T.loop (ι := Nat) (fun k => k ≤ L.length) (fun k => [(6, .bool false), (7, .slice (some ⟨g, 0, none⟩) L.length lc), (8, .slice (some ⟨g2, 0, none⟩) NN.length ic), (19, .slice da D.length dc), (21, .slice (some ⟨nb, 0, none⟩) L.length L.length), (22, .int .i64 (((List.range k).filter want).length : Nat)), (159, .slice (some ⟨nb, 0, none⟩) L.length L.length), (160, .int .i64 (L.length : Int)), (161, .int .i64 (k : Int))]) (fun _ => [bseg nb L.length want]) (fun k => L.length - k) 0 (Nat.zero_le _) ⟨rfl, rfl, rfl, rfl, rfl, rfl, rfl, rfl, rfl, trivial⟩ rfl ?_
        intro k hk
        have hcl : ((List.range k).filter want).length ≤ k := by have := List.length_filter_le want (List.range k); rw [List.length_range] at this; exact this
        refine T.seq ?_
        refine T.region ?_
        refine TL.bin hF rfl rfl rfl rfl ?_
        refine TL.nil ?_
        refine TQ.then_n ?_
        refine T.seq ?_
        first | refine T.cond_d rfl (fun ht162 => ?_) (fun ht162 => ?_) | refine T.cond _ rfl (fun ht162 => ?_) (fun ht162 => ?_)
        · refine T.skip ?_
          refine TQ.then_n ?_
          refine T.seq ?_
          refine T.block ?_
          refine T.seq ?_
          refine T.region ?_
          refine TL.indexAddr hF rfl rfl ⟨_, rfl, rfl⟩ (by omega) (by omega) rfl ?_
          refine TL.load hF rfl (bseg_at (f := want) (n := L.length) (b := nb) (j := k) List.mem_cons_self (by omega)) rfl ?_
          refine TL.assign hF rfl rfl ?_
          refine TL.nil ?_
          refine TQ.then_n ?_
          refine T.seq ?_
          refine T.region ?_
          refine TL.move hF rfl rfl ?_
          refine TL.nil ?_
          refine TQ.then_n ?_
          first | refine T.cond_d rfl (fun ht165 => ?_) (fun ht165 => ?_) | refine T.cond _ rfl (fun ht165 => ?_) (fun ht165 => ?_)
          · refine T.region ?_
            refine TL.move hF rfl rfl ?_
            refine TL.add hF rfl rfl (by omega) (by omega) rfl ?_
            refine TL.assign hF rfl rfl ?_
            refine TL.nil ?_
            refine TQ.block_n ?_
            refine TQ.then_n ?_
            refine T.region ?_
            refine TL.add hF rfl rfl (by omega) (by omega) rfl ?_
            refine TL.move hF rfl rfl ?_
            refine TL.nil ?_
            exact TQ.round (k + 1) (by omega) (by omega) ⟨rfl, rfl, rfl, rfl, rfl, congrArg (fun z => some (Value.int .i64 z)) (by rw [List.range_succ, List.filter_append, List.filter_cons, if_pos ht165]; simp), rfl, rfl, rfl, trivial⟩ rfl
          · refine T.skip ?_
            refine TQ.block_n ?_
            refine TQ.then_n ?_
            refine T.region ?_
            refine TL.add hF rfl rfl (by omega) (by omega) rfl ?_
            refine TL.move hF rfl rfl ?_
            refine TL.nil ?_
            exact TQ.round (k + 1) (by omega) (by omega) ⟨rfl, rfl, rfl, rfl, rfl, congrArg (fun z => some (Value.int .i64 z)) (by rw [List.range_succ, List.filter_append, List.filter_cons, if_neg (by simpa using ht165)]; simp), rfl, rfl, rfl, trivial⟩ rfl
        · refine T.exit ?_
          refine TQ.then_x ?_
          refine TQ.then_x ?_
          refine TQ.block_x ?_
          refine TQ.then_n ?_
          refine T.seq ?_
          refine T.seq ?_
          refine T.region ?_
          refine TL.move hF rfl rfl ?_
          refine TL.len hF rfl rfl ?_
          refine TL.move hF rfl rfl ?_
          refine TL.nil ?_
          refine TQ.then_n ?_
          refine T.block ?_
          have hkL : k = L.length := by omega
          subst hkL
          rw [← hcnt]
          refine T.loop (ι := Nat) (fun k => k ≤ D.length) (fun k => [(6, .bool false), (7, .slice (some ⟨g, 0, none⟩) L.length lc), (8, .slice (some ⟨g2, 0, none⟩) NN.length ic), (19, .slice da D.length dc), (21, .slice (some ⟨nb, 0, none⟩) L.length L.length), (22, .int .i64 (D.length : Int)), (169, .slice da D.length dc), (170, .int .i64 (D.length : Int)), (171, .int .i64 (k : Int))]) (fun _ => [bseg nb L.length want]) (fun k => D.length - k) 0 (Nat.zero_le _) ⟨rfl, rfl, rfl, rfl, rfl, rfl, rfl, rfl, rfl, trivial⟩ rfl ?_
          intro k hk3
          refine T.seq ?_
          refine T.region ?_
          refine TL.bin hF rfl rfl rfl rfl ?_
          refine TL.nil ?_
          refine TQ.then_n ?_
          refine T.seq ?_
          first | refine T.cond_d rfl (fun ht172 => ?_) (fun ht172 => ?_) | refine T.cond _ rfl (fun ht172 => ?_) (fun ht172 => ?_)
          · refine T.skip ?_
            refine TQ.then_n ?_
            refine T.seq ?_
            refine T.block ?_
            refine T.seq ?_
            refine T.region ?_
            have hkl : k < D.length := by omega
            obtain ⟨d1, d2, i, d3, hil, hwi⟩ := hlt _ (List.getElem_mem hkl)
            have hdk : D[k] = ⟨(mm : Int), (i : Int), D[k].word, true⟩ := by rw [← d1, ← d3, ← d2]
            generalize D[k].word = dw at hdk
            have hat : ∀ η' j v, ([Value.int .i64 (mm : Int), Value.int .i64 (i : Int), Value.int .i64 dw, Value.bool true])[j]? = some v → At S6 w6 η' ⟨(sAt da (k * 4)).block, (sAt da (k * 4)).off + j, none⟩ v := fun η' => by
              show ∀ j v, (DoneD.cells ⟨(mm : Int), (i : Int), dw, true⟩)[j]? = some v → _
              rw [← hdk]; exact hd.ro.tabA dcl hkl
            refine TL.indexAddr hF rfl rfl (hd.tad dcl (by decide) (i := k) (by omega)) (by omega) (by omega) rfl ?_
            refine TL.loadA hF ([Value.int .i64 (mm : Int), Value.int .i64 (i : Int), Value.int .i64 dw, Value.bool true]) rfl rfl (hat _) rfl ?_
            refine TL.alloc hF rfl (fun b26 => ?_)
            refine TL.storeAI hF ([Value.int .i64 (mm : Int), Value.int .i64 (i : Int), Value.int .i64 dw, Value.bool true]) 0 rfl rfl rfl rfl (by simp [Value.oneCell']) (by simp [Value.cells]) ?_
            refine TL.nil ?_
            refine TQ.then_n ?_
            refine T.seq ?_
            refine T.region ?_
            refine TL.fieldAddr hF rfl rfl ?_
            refine TL.load hF rfl (by first | exact At.own' (i := 0) rfl rfl | exact At.own' (i := 1) rfl rfl | exact At.own' (i := 2) rfl rfl | exact At.own' (i := 3) rfl rfl | exact At.own' (i := 4) rfl rfl | exact At.own' (i := 5) rfl rfl | exact At.own' (i := 6) rfl rfl | exact At.own' (i := 7) rfl rfl | exact At.own' (i := 8) rfl rfl | exact At.own' (i := 9) rfl rfl | exact At.own' (i := 10) rfl rfl | exact At.own' (i := 11) rfl rfl | exact At.own' (i := 12) rfl rfl) rfl ?_
            refine TL.bin hF rfl rfl rfl rfl ?_
            refine TL.move hF rfl rfl ?_
            refine TL.on rfl rfl rfl (by first | rfl | exact decide_eq_false (by omega) | (simp; omega)) ?_
            refine TL.fieldAddr hF rfl rfl ?_
            refine TL.on rfl rfl rfl (by first | rfl | exact decide_eq_false (by omega) | (simp; omega)) ?_
            refine TL.load hF rfl (by first | exact At.own' (i := 0) rfl rfl | exact At.own' (i := 1) rfl rfl | exact At.own' (i := 2) rfl rfl | exact At.own' (i := 3) rfl rfl | exact At.own' (i := 4) rfl rfl | exact At.own' (i := 5) rfl rfl | exact At.own' (i := 6) rfl rfl | exact At.own' (i := 7) rfl rfl | exact At.own' (i := 8) rfl rfl | exact At.own' (i := 9) rfl rfl | exact At.own' (i := 10) rfl rfl | exact At.own' (i := 11) rfl rfl | exact At.own' (i := 12) rfl rfl) rfl ?_
            refine TL.on rfl rfl rfl (by first | rfl | exact decide_eq_false (by omega) | (simp; omega)) ?_
            refine TL.move hF rfl rfl ?_
            refine TL.on rfl rfl rfl (by first | rfl | exact decide_eq_false (by omega) | (simp; omega)) ?_
            refine TL.len hF rfl rfl ?_
            refine TL.on rfl rfl rfl (by first | rfl | exact decide_eq_false (by omega) | (simp; omega)) ?_
            refine TL.bin hF rfl rfl rfl rfl ?_
            refine TL.pickF hF rfl (by first | rfl | exact decide_eq_false (by omega) | (simp; omega)) rfl rfl ?_
            refine TL.move hF rfl rfl ?_
            refine TL.on rfl rfl rfl (by first | rfl | exact decide_eq_false (by omega) | (simp; omega)) ?_
            refine TL.move hF rfl rfl ?_
            refine TL.on rfl rfl rfl (by first | rfl | exact decide_eq_false (by omega) | (simp; omega)) ?_
            refine TL.fieldAddr hF rfl rfl ?_
            refine TL.on rfl rfl rfl (by first | rfl | exact decide_eq_false (by omega) | (simp; omega)) ?_
            refine TL.load hF rfl (by first | exact At.own' (i := 0) rfl rfl | exact At.own' (i := 1) rfl rfl | exact At.own' (i := 2) rfl rfl | exact At.own' (i := 3) rfl rfl | exact At.own' (i := 4) rfl rfl | exact At.own' (i := 5) rfl rfl | exact At.own' (i := 6) rfl rfl | exact At.own' (i := 7) rfl rfl | exact At.own' (i := 8) rfl rfl | exact At.own' (i := 9) rfl rfl | exact At.own' (i := 10) rfl rfl | exact At.own' (i := 11) rfl rfl | exact At.own' (i := 12) rfl rfl) rfl ?_
            refine TL.on rfl rfl rfl (by first | rfl | exact decide_eq_false (by omega) | (simp; omega)) ?_
            refine TL.indexAddr hF rfl rfl ⟨_, rfl, rfl⟩ (by omega) (by omega) rfl ?_
            refine TL.on rfl rfl rfl (by first | rfl | exact decide_eq_false (by omega) | (simp; omega)) ?_
            refine TL.load hF rfl (bseg_at (f := want) (n := L.length) (b := nb) (j := i) (upc _ List.mem_cons_self) hil) rfl ?_
            refine TL.on rfl rfl rfl (by first | rfl | exact decide_eq_false (by omega) | (simp; omega)) ?_
            refine TL.not hF rfl rfl ?_
            refine TL.pickF hF rfl (by first | rfl | exact decide_eq_false (by omega) | (simp; omega)) rfl rfl ?_
            refine TL.move hF rfl rfl ?_
            refine TL.on rfl rfl rfl (by rw [hwi]; rfl) ?_
            refine TL.fieldAddr hF rfl rfl ?_
            refine TL.on rfl rfl rfl (by rw [hwi]; rfl) ?_
            refine TL.load hF rfl (by first | exact At.own' (i := 0) rfl rfl | exact At.own' (i := 1) rfl rfl | exact At.own' (i := 2) rfl rfl | exact At.own' (i := 3) rfl rfl | exact At.own' (i := 4) rfl rfl | exact At.own' (i := 5) rfl rfl | exact At.own' (i := 6) rfl rfl | exact At.own' (i := 7) rfl rfl | exact At.own' (i := 8) rfl rfl | exact At.own' (i := 9) rfl rfl | exact At.own' (i := 10) rfl rfl | exact At.own' (i := 11) rfl rfl | exact At.own' (i := 12) rfl rfl) rfl ?_
            refine TL.on rfl rfl rfl (by rw [hwi]; rfl) ?_
            refine TL.move hF rfl rfl ?_
            refine TL.on rfl rfl rfl (by rw [hwi]; rfl) ?_
            refine TL.len hF rfl rfl ?_
            refine TL.on rfl rfl rfl (by rw [hwi]; rfl) ?_
            refine TL.sub hF rfl rfl (by omega) (by omega) rfl ?_
            refine TL.on rfl rfl rfl (by rw [hwi]; rfl) ?_
            refine TL.bin hF rfl rfl rfl rfl ?_
            refine TL.pickF hF rfl (by rw [hwi]; rfl) rfl rfl ?_
            refine TL.move hF rfl rfl ?_
            refine TL.on rfl rfl rfl (by simp; omega) ?_
            refine TL.fieldAddr hF rfl rfl ?_
            refine TL.on rfl rfl rfl (by simp; omega) ?_
            refine TL.load hF rfl (by first | exact At.own' (i := 0) rfl rfl | exact At.own' (i := 1) rfl rfl | exact At.own' (i := 2) rfl rfl | exact At.own' (i := 3) rfl rfl | exact At.own' (i := 4) rfl rfl | exact At.own' (i := 5) rfl rfl | exact At.own' (i := 6) rfl rfl | exact At.own' (i := 7) rfl rfl | exact At.own' (i := 8) rfl rfl | exact At.own' (i := 9) rfl rfl | exact At.own' (i := 10) rfl rfl | exact At.own' (i := 11) rfl rfl | exact At.own' (i := 12) rfl rfl) rfl ?_
            refine TL.on rfl rfl rfl (by simp; omega) ?_
            refine TL.not hF rfl rfl ?_
            refine TL.pickF hF rfl (by simp; omega) rfl rfl ?_
            refine TL.nil ?_
            refine TQ.then_n ?_
            refine T.cond_f rfl rfl ?_
            refine T.skip ?_
            refine TQ.block_n ?_
            refine TQ.then_n ?_
            refine T.region ?_
            refine TL.add hF rfl rfl (by omega) (by omega) rfl ?_
            refine TL.move hF rfl rfl ?_
            refine TL.nil ?_
            refine TQ.pop ?_
            exact TQ.round (k + 1) (by omega) (by omega) ⟨rfl, rfl, rfl, rfl, rfl, rfl, rfl, rfl, rfl, trivial⟩ rfl
          · refine T.exit ?_
            refine TQ.then_x ?_
            refine TQ.then_x ?_
            refine TQ.block_x ?_
            refine TQ.then_n ?_
            refine T.seq ?_
            refine T.region ?_
            refine TL.move hF rfl rfl ?_
            refine TL.len hF rfl rfl ?_
            refine TL.move hF rfl rfl ?_
            refine TL.bin hF rfl rfl rfl rfl ?_
            refine TL.move hF rfl rfl ?_
            refine TL.on rfl rfl rfl (decide_eq_true rfl) ?_
            refine TL.hsub [] (List.nil_sublist _) ?_
            refine TL.call hF (awake_fn hg) rfl rfl ?_
            rintro _ _ rfl
            refine TL.pickT hF rfl (decide_eq_true rfl) rfl rfl ?_
            refine TL.assign hF rfl rfl ?_
            refine TL.nil ?_
            refine TQ.then_n ?_
            refine T.ret ?_
            exact TQ.retsF [6] _ hb rfl rfl rfl (fun _ => rfl)
end Go.Proofs.YtefkmiomldhmjaaDoor
