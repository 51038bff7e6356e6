/- Several texts in one. -/
import Derived.Test.YtefkmiomldhmjaaDoorQf
/- The law of any order. -/
namespace Go.Proofs.YtefkmiomldhmjaaDoor
open Go.Sl
variable {S : Nat → Prop} {w0 : World} {η : Heap}
def KK (p : Int × Int) : Value := .agg #[.int .i64 p.1, .int .i64 p.2]
def VD (d : DoneD) : Value := .agg d.cells.toArray
abbrev keyD (d : DoneD) : Int × Int := (d.inst, d.node)
theorem eq60 (a b : Int × Int) (w : World) : (Op.equal 60 (KK a) (KK b)).run Tryd.prog w = .ok (decide (a = b)) w := by
  have hf : Tryd.prog.underlying 60 = some (.struct (Tryd.prog.fieldsOf 60)) := by kernel_rfl
  have hs : Tryd.prog.stoodInHeld 60 = false := by kernel_rfl
  obtain ⟨f1, f2, h12, n1, n2, t1, t2, o1, o2⟩ : ∃ f1 f2, (Tryd.prog.fieldsOf 60).toList = [f1, f2] ∧ f1.name ≠ "_" ∧ f2.name ≠ "_" ∧ f1.type = 3 ∧ f2.type = 3 ∧ f1.offset = 0 ∧ f2.offset = 1 := by
    unfold Program.fieldsOf; rw [show Tryd.prog.underlying 60 = Tryd.prog.underlying 59 from by kernel_rfl, Tryd.underlying59]
    exact ⟨_, _, rfl, by decide, by decide, rfl, rfl, rfl, rfl⟩
  have hp : ∀ (xs : Array Value) (o : Nat) (v : Value), xs[o]? = some v → (part 3 xs o).run Tryd.prog w = .ok v w := by
    intro xs o v h
    simp [part, Ag.eq (P := Tryd.prog) (t := 3) (b := false), h]
  obtain ⟨a1, a2⟩ := a
  obtain ⟨b1, b2⟩ := b
  unfold Op.equal KK
  rw [show Op.maxDepth = 9999 + 1 from rfl, run_equalIn_struct w 9999 60 _ _ hf hs, h12]
  have hall : AllF Tryd.prog w 9999 #[.int .i64 a1, .int .i64 a2] #[.int .i64 b1, .int .i64 b2] [f1, f2] [(.int .i64 a1, .int .i64 b1, a1 == b1), (.int .i64 a2, .int .i64 b2, a2 == b2)] :=
    ⟨⟨n1, by rw [o1, t1]; exact hp _ 0 _ rfl, by rw [o1, t1]; exact hp _ 0 _ rfl, by rw [t1]; exact run_equalIn_int w 9998 3 .i64 .i64 a1 b1 Tryd.underlying3⟩,
     ⟨n2, by rw [o2, t2]; exact hp _ 1 _ rfl, by rw [o2, t2]; exact hp _ 1 _ rfl, by rw [t2]; exact run_equalIn_int w 9998 3 .i64 .i64 a2 b2 Tryd.underlying3⟩, trivial⟩
  rw [run_eqFields_all _ _ hall]
  by_cases h : a1 = b1 <;> by_cases g : a2 = b2 <;> simp [h, g]
instance : MKey Tryd.prog 60 KK where
  chk k e w := by kernel_rfl
  find k es l w h := by
    have h1 := find_asking (K := KK) (kt := 60) eq60 k es l 0 w h
    have h2 : (Instr.findKey 60 (KK k) es).run Tryd.prog w = (Instr.findAsking 60 (KK k) es 0).run Tryd.prog w := by
      have hu : ∃ fs, Tryd.prog.underlying 60 = some (.struct fs) := ⟨_, Tryd.underlying60⟩
      obtain ⟨fs, hu⟩ := hu
      have hr : (underlying 60).run Tryd.prog w = .ok (.struct fs) w := by simp [underlying, hu]
      cases es with
      | nil => simp [Instr.findKey, hr, Instr.findNow, Instr.findAsking]
      | cons e es => simp [Instr.findKey, hr, Instr.findNow, Instr.sameNow]
    rw [h2, h1]; simp
  same k := by simp [KK, Instr.sameBits]
/-- What the map of entries holds. -/
def SeenIs (ds : List DoneD) (m : List ((Int × Int) × DoneD)) : Prop := (∀ p ∈ m, ∃ d ∈ ds, p.1 = keyD d) ∧ ∀ d ∈ ds, mget (keyD d) m = some d
theorem SeenIs.nil : SeenIs [] [] := ⟨by simp, by simp⟩
theorem beh_key {l : List NodeD} {d x : DoneD} (h : Beh l d x) : keyD d ≠ keyD x := fun e => by
  have h1 : d.inst = x.inst := congrArg (·.1) e
  have h2 : d.node = x.node := congrArg (·.2) e
  exact (h.2 h1.symm).1 h2.symm
theorem SeenIs.fresh {l : List NodeD} {ds : List DoneD} {m : List ((Int × Int) × DoneD)} (hp : ds.Pairwise (Beh l)) {k : Nat} (h : SeenIs (ds.take k) m) (hk : k < ds.length) : mget (keyD ds[k]) m = none :=
  mget_none.2 fun p hpm e => by
    obtain ⟨d, hd, he⟩ := h.1 p hpm
    obtain ⟨i, hi, rfl⟩ := List.mem_iff_getElem.1 hd
    rw [List.length_take] at hi
    rw [List.getElem_take] at he
    exact beh_key (List.pairwise_iff_getElem.1 hp i k (by omega) hk (by omega)) (he.symm.trans e)
theorem SeenIs.put {l : List NodeD} {ds : List DoneD} {m : List ((Int × Int) × DoneD)} (hp : ds.Pairwise (Beh l)) {k : Nat} (h : SeenIs (ds.take k) m) (hk : k < ds.length) : SeenIs (ds.take (k + 1)) (mput (keyD ds[k]) ds[k] m) := by
  rw [List.take_succ_eq_append_getElem hk]
  refine ⟨fun p hpm => ?_, fun d hd => ?_⟩
  · rcases mem_mput hpm with rfl | hpm
    · exact ⟨ds[k], List.mem_append_right _ (List.mem_singleton.2 rfl), rfl⟩
    · obtain ⟨d, hd, he⟩ := h.1 p hpm; exact ⟨d, List.mem_append_left _ hd, he⟩
  · rw [mget_mput]
    rcases List.mem_append.1 hd with hd | hd
    · obtain ⟨i, hi, rfl⟩ := List.mem_iff_getElem.1 hd
      have hi2 := hi
      rw [List.length_take] at hi2
      have h0 := h.2 _ hd
      rw [List.getElem_take] at h0 ⊢
      rw [if_neg (beh_key (List.pairwise_iff_getElem.1 hp i k (by omega) hk (by omega)))]; exact h0
    · rw [List.mem_singleton.1 hd, if_pos rfl]

set_option maxHeartbeats 2000000 in
theorem SchedAnyOrder_fn {a b : Option Addr} {xs ys : List Nat} {c d : Nat} (hg : Kinds S w0) (hx : Row S w0 [] a (n32 xs)) (hy : Row S w0 [] b (n32 ys)) (hxl : xs.length < 2 ^ 63) (hyl : ys.length < 2 ^ 63) (hxc : xs.length ≤ c) (hyc : ys.length ≤ d) (hxb : ∀ n ∈ xs, n < 4294967296) (hyb : ∀ n ∈ ys, n < 4294967296) {q : Option Addr} {zs : List Nat} {e : Nat} (hs : Row S w0 [] q (n16 zs)) (hsl : zs.length < 2 ^ 63) (hsc : zs.length ≤ e) (hsb : ∀ n ∈ zs, n < 65536) {q2 : Option Addr} {zs2 : List Nat} {e2 : Nat} (hs2 : Row S w0 [] q2 (n16 zs2)) (hsl2 : zs2.length < 2 ^ 63) (hsc2 : zs2.length ≤ e2) (hsb2 : ∀ n ∈ zs2, n < 65536) :
    Rt Tryd.prog 5 [.slice a xs.length c, .slice b ys.length d, .slice q zs.length e, .slice q2 zs2.length e2].toArray S w0 [] (fun v _ => v = .bool true) := by
  have hF := open_wide
  refine Rt.of (fn := Tryd.f5) Tryd.func5 rfl rfl ?_
  refine T.seq ?_
  refine T.region ?_
  refine TL.assign hF rfl rfl ?_
  refine TL.nil ?_
  refine TQ.then_n ?_
  refine T.seq ?_
  refine T.region ?_
  refine TL.move hF rfl rfl ?_
  refine TL.move hF rfl rfl ?_
  refine TL.call hF (made_fn hx hy hxl hyl hxc hyc hxb hyb) rfl rfl ?_
  rintro _ _ ⟨l, all, la, lc, lg, ia', ic, ig, ins, rfl, rfl, hm, hol, hoi, hfr, hir⟩
  have hb := Back.refl S w0
  have hn : Nodes S w0 (ig :: lg :: ins) la l := ⟨hol.row (by simp), fun x hx => (hfr x hx).up (fun z hz => by simp [hz])⟩
  have hi : Insts S w0 (ig :: lg :: ins) ia' all := ⟨hoi.row (by simp), fun x hx => (hir x hx).1.up (fun z hz => by simp [hz]), fun x hx => (hir x hx).2.up (fun z hz => by simp [hz])⟩
  have hlcap := osl_cap hol
  have hicap := osl_cap hoi
  clear hol hoi hfr hir
  refine TL.freeze (ig :: lg :: ins) rfl (fun S1 w1 hz1 => ?_)
  have hb := hb.frz hz1
  have hn := hn.frz hz1
  have hi := hi.frz hz1
  have hr := hm.rn
  have hok := hr.ok
  have hlen := hm.hi
  have halen := hm.al
  have hlo := hm.lo
  have hg := hg.old hz1
  have hs := hs.old hz1
  have hs2 := hs2.old hz1
  refine TL.move hF rfl rfl ?_
  refine TL.extract hF rfl rfl rfl ?_
  refine TL.extract hF rfl rfl rfl ?_
  refine TL.assign hF rfl rfl ?_
  refine TL.assign hF rfl rfl ?_
  refine TL.nil ?_
  refine TQ.then_n ?_
  refine T.seq ?_
  refine T.region ?_
  refine TL.move hF rfl rfl ?_
  refine TL.move hF rfl rfl ?_
  refine TL.move hF rfl rfl ?_
  refine TL.call hF (order_fn hs hsl hsc hsb) rfl rfl ?_
  rintro _ _ ⟨pa, pc, s2, rfl, rfl, hp⟩
  obtain ⟨hpl, hpq⟩ := pick_ok hsb
  generalize hpk : (zs.take 200).map (fun (n : Nat) => (n : Int)) = pick at hp hpl hpq ⊢
  have hck := hm.check hpl hpq
  refine TL.freeze [s2] rfl (fun S2 w2 hz2 => ?_)
  have hb := hb.frz hz2
  have hg := hg.old hz2
  have hn := hn.old hz2
  have hi := hi.old hz2
  have hs := hs.old hz2
  have hs2 := hs2.old hz2
  have hp := hp.frz hz2
  refine TL.call hF (Run_made hg hn hi hp hm hck) rfl rfl ?_
  rintro _ _ ⟨da, dc, s3, rfl, rfl, hdc, hd⟩
  refine TL.freeze s3 rfl (fun S3 w3 hz3 => ?_)
  have hb := hb.frz hz3
  have hg := hg.old hz3
  have hn := hn.old hz3
  have hi := hi.old hz3
  have hs := hs.old hz3
  have hs2 := hs2.old hz3
  have hp := hp.old hz3
  have hd := hd.frz hz3
  refine TL.move hF rfl rfl ?_
  refine TL.extract hF rfl rfl rfl ?_
  refine TL.extract hF rfl rfl rfl ?_
  refine TL.assign hF rfl rfl ?_
  refine TL.assign hF rfl rfl ?_
  refine TL.nil ?_
  refine TQ.then_n ?_
  refine T.seq ?_
  refine T.region ?_
  refine TL.move hF rfl rfl ?_
  refine TL.move hF rfl rfl ?_
  refine TL.move hF rfl rfl ?_
  refine TL.call hF (order_fn hs2 hsl2 hsc2 hsb2) rfl rfl ?_
  rintro _ _ ⟨pa2, pc2, s4, rfl, rfl, hp2⟩
  obtain ⟨hpl2, hpq2⟩ := pick_ok hsb2
  generalize hpk2 : (zs2.take 200).map (fun (n : Nat) => (n : Int)) = pick2 at hp2 hpl2 hpq2 ⊢
  have hck2 := hm.check hpl2 hpq2
  refine TL.freeze [s4] rfl (fun S4 w4 hz4 => ?_)
  have hb := hb.frz hz4
  have hg := hg.old hz4
  have hn := hn.old hz4
  have hi := hi.old hz4
  have hs := hs.old hz4
  have hs2 := hs2.old hz4
  have hp := hp.old hz4
  have hd := hd.old hz4
  have hp2 := hp2.frz hz4
  refine TL.call hF (Run_made hg hn hi hp2 hm hck2) rfl rfl ?_
  rintro _ _ ⟨da2, dc2, s5, rfl, rfl, hdc2, hd2⟩
  refine TL.freeze s5 rfl (fun S5 w5 hz5 => ?_)
  have hb := hb.frz hz5
  have hg := hg.old hz5
  have hn := hn.old hz5
  have hi := hi.old hz5
  have hs := hs.old hz5
  have hs2 := hs2.old hz5
  have hd := hd.old hz5
  have hd2 := hd2.frz hz5
  refine TL.move hF rfl rfl ?_
  refine TL.extract hF rfl rfl rfl ?_
  refine TL.extract hF rfl rfl rfl ?_
  refine TL.assign hF rfl rfl ?_
  refine TL.assign hF rfl rfl ?_
  refine TL.nil ?_
  refine TQ.then_n ?_
  refine T.seq ?_
  refine T.region ?_
  refine TL.move hF rfl rfl ?_
  refine TL.move hF rfl rfl ?_
  refine TL.call hF (Run_made (sa := none) (pick := []) (sc := 0) hg hn hi Row.none hm (hm.check (pick := []) (by simp) (by simp))) rfl rfl ?_
  rintro _ _ ⟨da0, dc0, s6, rfl, rfl, hdc0, hd0⟩
  refine TL.freeze s6 rfl (fun S6 w6 hz6 => ?_)
  have hb := hb.frz hz6
  have hg := hg.old hz6
  have hn := hn.old hz6
  have hi := hi.old hz6
  have hs := hs.old hz6
  have hs2 := hs2.old hz6
  have hd := hd.old hz6
  have hd2 := hd2.old hz6
  have hd0 := hd0.frz hz6
  refine TL.move hF rfl rfl ?_
  refine TL.extract hF rfl rfl rfl ?_
  refine TL.extract hF rfl rfl rfl ?_
  refine TL.assign hF rfl rfl ?_
  refine TL.assign hF rfl rfl ?_
  refine TL.nil ?_
  refine TQ.then_n ?_
  refine T.seq ?_
  refine T.region ?_
  refine TL.move hF rfl rfl ?_
  refine TL.move hF rfl rfl ?_
  refine TL.move hF rfl rfl ?_
  refine TL.call hF (order_fn hs hsl hsc hsb) rfl rfl ?_
  rintro _ _ ⟨pa7, pc7, s7, rfl, rfl, hp7⟩
  rw [hpk] at hp7 ⊢
  refine TL.freeze [s7] rfl (fun S7 w7 hz7 => ?_)
  have hb := hb.frz hz7
  have hg := hg.old hz7
  have hn := hn.old hz7
  have hi := hi.old hz7
  have hs2 := hs2.old hz7
  have hd := hd.old hz7
  have hd2 := hd2.old hz7
  have hd0 := hd0.old hz7
  have hp7 := hp7.frz hz7
  refine TL.call hF (Looked_made hg hn hi hp7 hm hck) rfl rfl ?_
  rintro _ _ ⟨rfl, s98, rfl⟩
  refine TL.hsub [] (List.nil_sublist _) ?_
  refine TL.move hF rfl rfl ?_
  refine TL.extract hF rfl rfl rfl ?_
  refine TL.extract hF rfl rfl rfl ?_
  refine TL.extract hF rfl rfl rfl ?_
  refine TL.assign hF rfl rfl ?_
  refine TL.assign hF rfl rfl ?_
  refine TL.assign hF rfl rfl ?_
  refine TL.nil ?_
  refine TQ.then_n ?_
  refine T.seq ?_
  refine T.region ?_
  refine TL.move hF rfl rfl ?_
  refine TL.move hF rfl rfl ?_
  refine TL.move hF rfl rfl ?_
  refine TL.call hF (order_fn hs2 hsl2 hsc2 hsb2) rfl rfl ?_
  rintro _ _ ⟨pa8, pc8, s8, rfl, rfl, hp8⟩
  rw [hpk2] at hp8 ⊢
  refine TL.freeze [s8] rfl (fun S8 w8 hz8 => ?_)
  have hb := hb.frz hz8
  have hg := hg.old hz8
  have hn := hn.old hz8
  have hi := hi.old hz8
  have hd := hd.old hz8
  have hd2 := hd2.old hz8
  have hd0 := hd0.old hz8
  have hp8 := hp8.frz hz8
  refine TL.call hF (Looked_made hg hn hi hp8 hm hck2) rfl rfl ?_
  rintro _ _ ⟨rfl, s99, rfl⟩
  refine TL.hsub [] (List.nil_sublist _) ?_
  have hcnt := (hr.any pick pick2).2
  have hAB := (hr.any pick pick2).1
  have hAC := (hr.any pick []).1
  have hbA := hr.behind pick
  have hrC := hr.rise (pick := []) rfl
  have hdl := told_dlen hm pick
  generalize (toldS l all pick).1 = DA at hd hAB hAC hbA hdl hdc ⊢
  generalize (toldS l all pick2).1 = DB at hd2 hAB hdc2 ⊢
  generalize (toldS l all []).1 = DC at hd0 hAC hrC hdc0 ⊢
  have hlB := hAB.length_eq
  have hlC := hAC.length_eq
  refine TL.move hF rfl rfl ?_
  refine TL.extract hF rfl rfl rfl ?_
  refine TL.extract hF rfl rfl rfl ?_
  refine TL.extract hF rfl rfl rfl ?_
  refine TL.assign hF rfl rfl ?_
  refine TL.assign hF rfl rfl ?_
  refine TL.assign hF rfl rfl ?_
  refine TL.nil ?_
  refine TQ.then_n ?_
  refine T.seq ?_
  refine T.seq ?_
  refine T.region ?_
  refine TL.move hF rfl rfl ?_
  refine TL.bin hF rfl rfl rfl rfl ?_
  refine TL.move hF rfl rfl ?_
  refine TL.on rfl rfl rfl rfl ?_
  refine TL.move hF rfl rfl ?_
  refine TL.on rfl rfl rfl rfl ?_
  refine TL.move hF rfl rfl ?_
  refine TL.on rfl rfl rfl rfl ?_
  refine TL.bin hF rfl rfl rfl rfl ?_
  refine TL.pickF hF rfl rfl rfl rfl ?_
  refine TL.move hF rfl rfl ?_
  refine TL.on rfl rfl rfl rfl ?_
  refine TL.move hF rfl rfl ?_
  refine TL.on rfl rfl rfl rfl ?_
  refine TL.move hF rfl rfl ?_
  refine TL.on rfl rfl rfl rfl ?_
  refine TL.bin hF rfl rfl rfl rfl ?_
  refine TL.pickF hF rfl rfl rfl rfl ?_
  refine TL.move hF rfl rfl ?_
  refine TL.on rfl rfl rfl rfl ?_
  refine TL.move hF rfl rfl ?_
  refine TL.on rfl rfl rfl rfl ?_
  refine TL.move hF rfl rfl ?_
  refine TL.on rfl rfl rfl rfl ?_
  refine TL.bin hF rfl rfl rfl rfl ?_
  refine TL.pickF hF rfl rfl rfl rfl ?_
  refine TL.move hF rfl rfl ?_
  refine TL.on rfl rfl rfl rfl ?_
  refine TL.move hF rfl rfl ?_
  refine TL.on rfl rfl rfl rfl ?_
  refine TL.move hF rfl rfl ?_
  refine TL.on rfl rfl rfl rfl ?_
  refine TL.bin hF rfl rfl rfl rfl ?_
  refine TL.pickF hF rfl rfl rfl rfl ?_
  refine TL.move hF rfl rfl ?_
  refine TL.on rfl rfl rfl rfl ?_
  refine TL.move hF rfl rfl ?_
  refine TL.on rfl rfl rfl rfl ?_
  refine TL.move hF rfl rfl ?_
  refine TL.on rfl rfl rfl rfl ?_
  refine TL.bin hF rfl rfl rfl rfl ?_
  refine TL.pickF hF rfl rfl rfl rfl ?_
  refine TL.move hF rfl rfl ?_
  refine TL.on rfl rfl rfl (by simp [hcnt]) ?_
  refine TL.move hF rfl rfl ?_
  refine TL.on rfl rfl rfl (by simp [hcnt]) ?_
  refine TL.move hF rfl rfl ?_
  refine TL.on rfl rfl rfl (by simp [hcnt]) ?_
  refine TL.bin hF rfl rfl rfl rfl ?_
  refine TL.pickF hF rfl (by simp [hcnt]) rfl rfl ?_
  refine TL.move hF rfl rfl ?_
  refine TL.on rfl rfl rfl (by simp [hlB]) ?_
  refine TL.move hF rfl rfl ?_
  refine TL.on rfl rfl rfl (by simp [hlB]) ?_
  refine TL.len hF rfl rfl ?_
  refine TL.on rfl rfl rfl (by simp [hlB]) ?_
  refine TL.move hF rfl rfl ?_
  refine TL.on rfl rfl rfl (by simp [hlB]) ?_
  refine TL.bin hF rfl rfl rfl rfl ?_
  refine TL.pickF hF rfl (by simp [hlB]) rfl rfl ?_
  refine TL.move hF rfl rfl ?_
  refine TL.on rfl rfl rfl (by simp) ?_
  refine TL.move hF rfl rfl ?_
  refine TL.on rfl rfl rfl (by simp) ?_
  refine TL.len hF rfl rfl ?_
  refine TL.on rfl rfl rfl (by simp) ?_
  refine TL.move hF rfl rfl ?_
  refine TL.on rfl rfl rfl (by simp) ?_
  refine TL.bin hF rfl rfl rfl rfl ?_
  refine TL.pickF hF rfl (by simp) rfl rfl ?_
  refine TL.move hF rfl rfl ?_
  refine TL.on rfl rfl rfl (by simp [hlB]) ?_
  refine TL.move hF rfl rfl ?_
  refine TL.on rfl rfl rfl (by simp [hlB]) ?_
  refine TL.len hF rfl rfl ?_
  refine TL.on rfl rfl rfl (by simp [hlB]) ?_
  refine TL.move hF rfl rfl ?_
  refine TL.on rfl rfl rfl (by simp [hlB]) ?_
  refine TL.bin hF rfl rfl rfl rfl ?_
  refine TL.pickF hF rfl (by simp [hlB]) rfl rfl ?_
  refine TL.nil ?_
  refine TQ.then_n ?_
  refine T.cond_f rfl (by simp [hlC]) ?_
  refine T.skip ?_
  refine TQ.then_n ?_
  refine T.seq ?_
  refine T.region ?_
  refine TL.makeMap hF rfl (fun b125 => ?_)
  refine TL.assign hF rfl rfl ?_
  refine TL.nil ?_
  refine TQ.then_n ?_
  refine T.seq ?_
  refine T.seq ?_
  refine T.region ?_
  refine TL.move hF rfl rfl ?_
  refine TL.len hF rfl rfl ?_
  refine TL.move hF rfl rfl ?_
  refine TL.nil ?_
  refine TQ.then_n ?_
  refine T.block ?_
  refine T.loop (ι := Nat × List ((Int × Int) × DoneD) × Array MapEntry × Nat) (fun i => i.1 ≤ DA.length ∧ MObj KK VD i.2.1 i.2.2.1 i.2.2.2 ∧ SeenIs (DA.take i.1) i.2.1) (fun i => [(8, .bool false), (13, .slice da2 DB.length dc2), (15, .slice da0 DC.length dc0), (23, .map (some b125)), (126, .slice da DA.length dc), (127, .int .i64 (DA.length : Int)), (128, .int .i64 (i.1 : Int))]) (fun i => [[(b125, Obj.map i.2.2.1 i.2.2.2)]]) (fun i => DA.length - i.1) (0, [], #[], 0) ⟨Nat.zero_le _, MObj.nil KK VD, SeenIs.nil⟩ ⟨rfl, rfl, rfl, rfl, rfl, rfl, rfl, trivial⟩ rfl ?_
  rintro ⟨k, m, es, cl⟩ ⟨hk, hmo, hsi⟩
  dsimp only at hk hmo hsi
  refine T.seq ?_
  refine T.region ?_
  refine TL.bin hF rfl rfl rfl rfl ?_
  refine TL.nil ?_
  refine TQ.then_n ?_
  refine T.seq ?_
  first | refine T.cond_d rfl (fun ht129 => ?_) (fun ht129 => ?_) | refine T.cond _ rfl (fun ht129 => ?_) (fun ht129 => ?_)
  · refine T.skip ?_
    refine TQ.then_n ?_
    refine T.seq ?_
    refine T.block ?_
    refine T.seq ?_
    refine T.region ?_
    refine TL.indexAddr hF rfl rfl (hd.tad dcl (by decide) (i := k) (by omega)) (by omega) (by omega) rfl ?_
    refine TL.loadA hF (DA[k]'(by omega)).cells rfl rfl (hd.ro.tabA dcl (i := k) (by omega)) rfl ?_
    refine TL.alloc hF rfl (fun b25 => ?_)
    refine TL.storeAI hF (DA[k]'(by omega)).cells 0 rfl rfl rfl rfl (dcells1 _) (by simp [Value.cells, dcl]) ?_
    refine TL.nil ?_
    refine TQ.then_n ?_
    refine T.seq ?_
    refine T.seq ?_
    refine T.region ?_
    refine TL.move hF rfl rfl ?_
    refine TL.fieldAddr hF rfl rfl ?_
    refine TL.load hF rfl (by first | exact At.own' (i := 0) rfl rfl | exact At.own' (i := 1) rfl rfl | exact At.own' (i := 2) rfl rfl | exact At.own' (i := 3) rfl rfl | exact At.own' (i := 4) rfl rfl | exact At.own' (i := 5) rfl rfl | exact At.own' (i := 6) rfl rfl | exact At.own' (i := 7) rfl rfl | exact At.own' (i := 8) rfl rfl | exact At.own' (i := 9) rfl rfl | exact At.own' (i := 10) rfl rfl | exact At.own' (i := 11) rfl rfl | exact At.own' (i := 12) rfl rfl) rfl ?_
    refine TL.fieldAddr hF rfl rfl ?_
    refine TL.load hF rfl (by first | exact At.own' (i := 0) rfl rfl | exact At.own' (i := 1) rfl rfl | exact At.own' (i := 2) rfl rfl | exact At.own' (i := 3) rfl rfl | exact At.own' (i := 4) rfl rfl | exact At.own' (i := 5) rfl rfl | exact At.own' (i := 6) rfl rfl | exact At.own' (i := 7) rfl rfl | exact At.own' (i := 8) rfl rfl | exact At.own' (i := 9) rfl rfl | exact At.own' (i := 10) rfl rfl | exact At.own' (i := 11) rfl rfl | exact At.own' (i := 12) rfl rfl) rfl ?_
    have hkl : k < DA.length := by omega
    have hno := hsi.fresh hbA hkl
    refine TL.build hF rfl (r := KK (keyD DA[k])) (fun w => by kernel_rfl) rfl ?_
    refine TL.lookupOk hF VD (keyD DA[k]) rfl rfl (upc _ List.mem_cons_self) hmo rfl ?_
    rw [hno]
    refine TL.move hF rfl rfl ?_
    refine TL.extract hF rfl rfl rfl ?_
    refine TL.extract hF rfl rfl rfl ?_
    refine TL.alloc hF rfl (fun b26 => ?_)
    refine TL.storeAI hF [.int .i64 0, .int .i64 0, .int .i64 0, .bool false] 0 rfl rfl rfl rfl (by simp [Value.oneCell']) (by simp [Value.cells]) ?_
    refine TL.assign hF rfl rfl ?_
    refine TL.nil ?_
    refine TQ.then_n ?_
    refine T.seq ?_
    refine T.region ?_
    refine TL.move hF rfl rfl ?_
    refine TL.nil ?_
    refine TQ.then_n ?_
    refine T.cond_f rfl rfl ?_
    refine T.skip ?_
    refine TQ.then_n ?_
    refine T.region ?_
    refine TL.move hF rfl rfl ?_
    refine TL.fieldAddr hF rfl rfl ?_
    refine TL.load hF rfl (by first | exact At.own' (i := 0) rfl rfl | exact At.own' (i := 1) rfl rfl | exact At.own' (i := 2) rfl rfl | exact At.own' (i := 3) rfl rfl | exact At.own' (i := 4) rfl rfl | exact At.own' (i := 5) rfl rfl | exact At.own' (i := 6) rfl rfl | exact At.own' (i := 7) rfl rfl | exact At.own' (i := 8) rfl rfl | exact At.own' (i := 9) rfl rfl | exact At.own' (i := 10) rfl rfl | exact At.own' (i := 11) rfl rfl | exact At.own' (i := 12) rfl rfl) rfl ?_
    refine TL.fieldAddr hF rfl rfl ?_
    refine TL.load hF rfl (by first | exact At.own' (i := 0) rfl rfl | exact At.own' (i := 1) rfl rfl | exact At.own' (i := 2) rfl rfl | exact At.own' (i := 3) rfl rfl | exact At.own' (i := 4) rfl rfl | exact At.own' (i := 5) rfl rfl | exact At.own' (i := 6) rfl rfl | exact At.own' (i := 7) rfl rfl | exact At.own' (i := 8) rfl rfl | exact At.own' (i := 9) rfl rfl | exact At.own' (i := 10) rfl rfl | exact At.own' (i := 11) rfl rfl | exact At.own' (i := 12) rfl rfl) rfl ?_
    refine TL.build hF rfl (r := KK (keyD DA[k])) (fun w => by kernel_rfl) rfl ?_
    refine TL.loadA hF (DA[k]).cells rfl rfl (own_list (cs := DA[k].cells) (e := 53) (i := 1) rfl) rfl ?_
    refine TL.mapUpdate hF 2 VD (keyD DA[k]) DA[k] rfl rfl rfl rfl hmo (fun es16 clock16 hm16 => ?_)
    refine TL.nil ?_
    refine TQ.block_n ?_
    refine TQ.then_n ?_
    refine T.region ?_
    refine TL.add hF rfl rfl (by omega) (by omega) rfl ?_
    refine TL.move hF rfl rfl ?_
    refine TL.nil ?_
    refine TQ.pop (TQ.pop ?_)
    exact TQ.round (k + 1, mput (keyD DA[k]) DA[k] m, es16, clock16) ⟨by dsimp only; omega, hm16, hsi.put hbA hkl⟩ (by dsimp only; omega) ⟨rfl, rfl, rfl, rfl, rfl, rfl, rfl, trivial⟩ rfl
  · refine T.exit ?_
    refine TQ.then_x ?_
    refine TQ.then_x ?_
    refine TQ.block_x ?_
    refine TQ.then_n ?_
    refine T.seq ?_
    refine T.seq ?_
    refine T.region ?_
    refine TL.move hF rfl rfl ?_
    refine TL.len hF rfl rfl ?_
    refine TL.move hF rfl rfl ?_
    refine TL.nil ?_
    refine TQ.then_n ?_
    refine T.block ?_
    have hkn : k = DA.length := by omega
    subst hkn
    rw [List.take_length] at hsi
    refine T.loop (ι := Nat) (fun k => k ≤ DB.length) (fun k => [(8, .bool false), (13, .slice da2 DB.length dc2), (15, .slice da0 DC.length dc0), (23, .map (some b125)), (152, .int .i64 (DB.length : Int)), (153, .int .i64 (k : Int))]) (fun _ => [[(b125, Obj.map es cl)]]) (fun k => DB.length - k) 0 (Nat.zero_le _) ⟨rfl, rfl, rfl, rfl, rfl, rfl, trivial⟩ rfl ?_
    intro k hk2
    refine T.seq ?_
    refine T.region ?_
    refine TL.bin hF rfl rfl rfl rfl ?_
    refine TL.nil ?_
    refine TQ.then_n ?_
    refine T.seq ?_
    first | refine T.cond_d rfl (fun ht154 => ?_) (fun ht154 => ?_) | refine T.cond _ rfl (fun ht154 => ?_) (fun ht154 => ?_)
    · refine T.skip ?_
      refine TQ.then_n ?_
      refine T.seq ?_
      refine T.block ?_
      refine T.seq ?_
      refine T.region ?_
      refine TL.move hF rfl rfl ?_
      refine TL.assign hF rfl rfl ?_
      refine TL.nil ?_
      refine TQ.then_n ?_
      refine T.seq ?_
      refine T.seq ?_
      have hkB : k < DB.length := by omega
      have hkC : k < DC.length := by omega
      have hgB := hsi.2 _ (hAB.mem_iff.2 (List.getElem_mem hkB))
      have hgC := hsi.2 _ (hAC.mem_iff.2 (List.getElem_mem hkC))
      refine T.draw ?_
      refine DR.stepV [_] rfl [(23, _, none)] rfl rfl ⟨⟨rfl, by kernel_rfl⟩, trivial⟩ (fun ext => TL.move hF rfl rfl TL.fin) ?_
      refine DR.stepV [_, _] rfl [(13, _, none)] rfl rfl ⟨⟨rfl, by kernel_rfl⟩, trivial⟩ (fun ext => TL.move hF rfl rfl TL.fin) ?_
      refine DR.stepV [_, _, _] rfl [(28, _, none)] rfl rfl ⟨⟨rfl, by kernel_rfl⟩, trivial⟩ (fun ext => TL.move hF rfl rfl TL.fin) ?_
      refine DR.stepV [_, _, _, _] rfl [(157, _, some 1), (158, _, some 2)] rfl rfl ⟨⟨rfl, rfl, rfl⟩, ⟨rfl, rfl, rfl⟩, trivial⟩ (fun ext => TL.indexAddr hF rfl rfl (hd2.tad dcl (by decide) (i := k) (by omega)) (by omega) (by omega) rfl TL.fin) ?_
      refine DR.stepV [_, _, _, _, _] rfl [(159, _, some 3)] rfl rfl ⟨⟨rfl, rfl, rfl⟩, trivial⟩ (fun ext => TL.fieldAddr hF rfl rfl TL.fin) ?_
      refine DR.stepV [_, _, _, _, _, _] rfl [(160, _, some 4)] rfl rfl ⟨⟨rfl, rfl, rfl⟩, trivial⟩ (fun ext => TL.load hF rfl (hd2.ro.tab dcl (i := k) hkB 0 rfl) rfl TL.fin) ?_
      refine DR.stepV [_, _, _, _, _, _, _] rfl [(13, _, none)] rfl rfl ⟨⟨rfl, by kernel_rfl⟩, trivial⟩ (fun ext => TL.move hF rfl rfl TL.fin) ?_
      refine DR.stepV [_, _, _, _, _, _, _, _] rfl [(28, _, none)] rfl rfl ⟨⟨rfl, by kernel_rfl⟩, trivial⟩ (fun ext => TL.move hF rfl rfl TL.fin) ?_
      refine DR.stepV [_, _, _, _, _, _, _, _, _] rfl [(162, _, some 6), (163, _, some 7)] rfl rfl ⟨⟨rfl, rfl, rfl⟩, ⟨rfl, rfl, rfl⟩, trivial⟩ (fun ext => TL.indexAddr hF rfl rfl (hd2.tad dcl (by decide) (i := k) (by omega)) (by omega) (by omega) rfl TL.fin) ?_
      refine DR.stepV [_, _, _, _, _, _, _, _, _, _] rfl [(164, _, some 8)] rfl rfl ⟨⟨rfl, rfl, rfl⟩, trivial⟩ (fun ext => TL.fieldAddr hF rfl rfl TL.fin) ?_
      refine DR.stepV [_, _, _, _, _, _, _, _, _, _, _] rfl [(165, _, some 9)] rfl rfl ⟨⟨rfl, rfl, rfl⟩, trivial⟩ (fun ext => TL.load hF rfl (hd2.ro.tab dcl (i := k) hkB 1 rfl) rfl TL.fin) ?_
      refine DR.stepV [_, _, _, _, _, _, _, _, _, _, _, _] rfl [(161, _, some 5), (166, _, some 10)] rfl rfl ⟨⟨rfl, rfl, rfl⟩, ⟨rfl, rfl, rfl⟩, trivial⟩ (fun ext => TL.build hF rfl (r := KK (keyD DB[k])) (fun w => by kernel_rfl) rfl TL.fin) ?_
      refine DR.stepV [_, _, _, _, _, _, _, _, _, _, _, _, _] rfl [(156, _, some 0), (167, _, some 11)] rfl rfl ⟨⟨rfl, rfl, rfl⟩, ⟨rfl, rfl, rfl⟩, trivial⟩ (fun ext => (by
            refine TL.lookup hF VD (keyD DB[k]) rfl rfl List.mem_cons_self hmo rfl ?_
            rw [hgB]
            exact TL.fin)) ?_
      refine DR.stepV [_, _, _, _, _, _, _, _, _, _, _, _, _, _] rfl [(13, _, none)] rfl rfl ⟨⟨rfl, by kernel_rfl⟩, trivial⟩ (fun ext => TL.move hF rfl rfl TL.fin) ?_
      refine DR.stepV [_, _, _, _, _, _, _, _, _, _, _, _, _, _, _] rfl [(28, _, none)] rfl rfl ⟨⟨rfl, by kernel_rfl⟩, trivial⟩ (fun ext => TL.move hF rfl rfl TL.fin) ?_
      refine DR.stepV [_, _, _, _, _, _, _, _, _, _, _, _, _, _, _, _] rfl [(169, _, some 13), (170, _, some 14)] rfl rfl ⟨⟨rfl, rfl, rfl⟩, ⟨rfl, rfl, rfl⟩, trivial⟩ (fun ext => TL.indexAddr hF rfl rfl (hd2.tad dcl (by decide) (i := k) (by omega)) (by omega) (by omega) rfl TL.fin) ?_
      refine DR.stepV [_, _, _, _, _, _, _, _, _, _, _, _, _, _, _, _, _] rfl [(171, _, some 15)] rfl rfl ⟨⟨rfl, rfl, rfl⟩, trivial⟩ (fun ext => TL.loadA hF (DB[k]).cells rfl rfl (hd2.ro.tabA dcl (i := k) hkB) rfl TL.fin) ?_
      refine DR.stepV [_, _, _, _, _, _, _, _, _, _, _, _, _, _, _, _, _, _] rfl [(168, _, some 12), (172, _, some 16)] rfl rfl ⟨⟨rfl, rfl, rfl⟩, ⟨rfl, rfl, rfl⟩, trivial⟩ (fun ext => TL.neqA hF rfl rfl (by kernel_rfl) (fun w => eq53 DB[k] DB[k] w) rfl TL.fin) ?_
      refine DR.stepV [_, _, _, _, _, _, _, _, _, _, _, _, _, _, _, _, _, _, _] rfl [(173, _, some 17)] rfl rfl ⟨⟨rfl, rfl, rfl⟩, trivial⟩ (fun ext => TL.move hF rfl rfl TL.fin) ?_
      refine DR.stepV [_, _, _, _, _, _, _, _, _, _, _, _, _, _, _, _, _, _, _, _] rfl [(23, _, none), (174, _, some 18)] rfl rfl ⟨⟨rfl, by kernel_rfl⟩, ⟨rfl, rfl, rfl⟩, trivial⟩ (fun ext => TL.on rfl rfl rfl (by simp) <| TL.move hF rfl rfl TL.fin) ?_
      refine DR.stepV [_, _, _, _, _, _, _, _, _, _, _, _, _, _, _, _, _, _, _, _, _] rfl [(15, _, none), (174, _, some 18)] rfl rfl ⟨⟨rfl, by kernel_rfl⟩, ⟨rfl, rfl, rfl⟩, trivial⟩ (fun ext => TL.on rfl rfl rfl (by simp) <| TL.move hF rfl rfl TL.fin) ?_
      refine DR.stepV [_, _, _, _, _, _, _, _, _, _, _, _, _, _, _, _, _, _, _, _, _, _] rfl [(28, _, none), (174, _, some 18)] rfl rfl ⟨⟨rfl, by kernel_rfl⟩, ⟨rfl, rfl, rfl⟩, trivial⟩ (fun ext => TL.on rfl rfl rfl (by simp) <| TL.move hF rfl rfl TL.fin) ?_
      refine DR.stepV [_, _, _, _, _, _, _, _, _, _, _, _, _, _, _, _, _, _, _, _, _, _, _] rfl [(176, _, some 20), (177, _, some 21), (174, _, some 18)] rfl rfl ⟨⟨rfl, rfl, rfl⟩, ⟨rfl, rfl, rfl⟩, ⟨rfl, rfl, rfl⟩, trivial⟩ (fun ext => TL.on rfl rfl rfl (by simp) <| TL.indexAddr hF rfl rfl (hd0.tad dcl (by decide) (i := k) (by omega)) (by omega) (by omega) rfl TL.fin) ?_
      refine DR.stepV [_, _, _, _, _, _, _, _, _, _, _, _, _, _, _, _, _, _, _, _, _, _, _, _] rfl [(178, _, some 22), (174, _, some 18)] rfl rfl ⟨⟨rfl, rfl, rfl⟩, ⟨rfl, rfl, rfl⟩, trivial⟩ (fun ext => TL.on rfl rfl rfl (by simp) <| TL.fieldAddr hF rfl rfl TL.fin) ?_
      refine DR.stepV [_, _, _, _, _, _, _, _, _, _, _, _, _, _, _, _, _, _, _, _, _, _, _, _, _] rfl [(179, _, some 23), (174, _, some 18)] rfl rfl ⟨⟨rfl, rfl, rfl⟩, ⟨rfl, rfl, rfl⟩, trivial⟩ (fun ext => TL.on rfl rfl rfl (by simp) <| TL.load hF rfl (hd0.ro.tab dcl (i := k) hkC 0 rfl) rfl TL.fin) ?_
      refine DR.stepV [_, _, _, _, _, _, _, _, _, _, _, _, _, _, _, _, _, _, _, _, _, _, _, _, _, _] rfl [(15, _, none), (174, _, some 18)] rfl rfl ⟨⟨rfl, by kernel_rfl⟩, ⟨rfl, rfl, rfl⟩, trivial⟩ (fun ext => TL.on rfl rfl rfl (by simp) <| TL.move hF rfl rfl TL.fin) ?_
      refine DR.stepV [_, _, _, _, _, _, _, _, _, _, _, _, _, _, _, _, _, _, _, _, _, _, _, _, _, _, _] rfl [(28, _, none), (174, _, some 18)] rfl rfl ⟨⟨rfl, by kernel_rfl⟩, ⟨rfl, rfl, rfl⟩, trivial⟩ (fun ext => TL.on rfl rfl rfl (by simp) <| TL.move hF rfl rfl TL.fin) ?_
      refine DR.stepV [_, _, _, _, _, _, _, _, _, _, _, _, _, _, _, _, _, _, _, _, _, _, _, _, _, _, _, _] rfl [(181, _, some 25), (182, _, some 26), (174, _, some 18)] rfl rfl ⟨⟨rfl, rfl, rfl⟩, ⟨rfl, rfl, rfl⟩, ⟨rfl, rfl, rfl⟩, trivial⟩ (fun ext => TL.on rfl rfl rfl (by simp) <| TL.indexAddr hF rfl rfl (hd0.tad dcl (by decide) (i := k) (by omega)) (by omega) (by omega) rfl TL.fin) ?_
      refine DR.stepV [_, _, _, _, _, _, _, _, _, _, _, _, _, _, _, _, _, _, _, _, _, _, _, _, _, _, _, _, _] rfl [(183, _, some 27), (174, _, some 18)] rfl rfl ⟨⟨rfl, rfl, rfl⟩, ⟨rfl, rfl, rfl⟩, trivial⟩ (fun ext => TL.on rfl rfl rfl (by simp) <| TL.fieldAddr hF rfl rfl TL.fin) ?_
      refine DR.stepV [_, _, _, _, _, _, _, _, _, _, _, _, _, _, _, _, _, _, _, _, _, _, _, _, _, _, _, _, _, _] rfl [(184, _, some 28), (174, _, some 18)] rfl rfl ⟨⟨rfl, rfl, rfl⟩, ⟨rfl, rfl, rfl⟩, trivial⟩ (fun ext => TL.on rfl rfl rfl (by simp) <| TL.load hF rfl (hd0.ro.tab dcl (i := k) hkC 1 rfl) rfl TL.fin) ?_
      refine DR.stepV [_, _, _, _, _, _, _, _, _, _, _, _, _, _, _, _, _, _, _, _, _, _, _, _, _, _, _, _, _, _, _] rfl [(180, _, some 24), (185, _, some 29), (174, _, some 18)] rfl rfl ⟨⟨rfl, rfl, rfl⟩, ⟨rfl, rfl, rfl⟩, ⟨rfl, rfl, rfl⟩, trivial⟩ (fun ext => TL.on rfl rfl rfl (by simp) <| TL.build hF rfl (r := KK (keyD DC[k])) (fun w => by kernel_rfl) rfl TL.fin) ?_
      refine DR.stepV [_, _, _, _, _, _, _, _, _, _, _, _, _, _, _, _, _, _, _, _, _, _, _, _, _, _, _, _, _, _, _, _] rfl [(175, _, some 19), (186, _, some 30), (174, _, some 18)] rfl rfl ⟨⟨rfl, rfl, rfl⟩, ⟨rfl, rfl, rfl⟩, ⟨rfl, rfl, rfl⟩, trivial⟩ (fun ext => TL.on rfl rfl rfl (by simp) <| (by
            refine TL.lookup hF VD (keyD DC[k]) rfl rfl List.mem_cons_self hmo rfl ?_
            rw [hgC]
            exact TL.fin)) ?_
      refine DR.stepV [_, _, _, _, _, _, _, _, _, _, _, _, _, _, _, _, _, _, _, _, _, _, _, _, _, _, _, _, _, _, _, _, _] rfl [(15, _, none), (174, _, some 18)] rfl rfl ⟨⟨rfl, by kernel_rfl⟩, ⟨rfl, rfl, rfl⟩, trivial⟩ (fun ext => TL.on rfl rfl rfl (by simp) <| TL.move hF rfl rfl TL.fin) ?_
      refine DR.stepV [_, _, _, _, _, _, _, _, _, _, _, _, _, _, _, _, _, _, _, _, _, _, _, _, _, _, _, _, _, _, _, _, _, _] rfl [(28, _, none), (174, _, some 18)] rfl rfl ⟨⟨rfl, by kernel_rfl⟩, ⟨rfl, rfl, rfl⟩, trivial⟩ (fun ext => TL.on rfl rfl rfl (by simp) <| TL.move hF rfl rfl TL.fin) ?_
      refine DR.stepV [_, _, _, _, _, _, _, _, _, _, _, _, _, _, _, _, _, _, _, _, _, _, _, _, _, _, _, _, _, _, _, _, _, _, _] rfl [(188, _, some 32), (189, _, some 33), (174, _, some 18)] rfl rfl ⟨⟨rfl, rfl, rfl⟩, ⟨rfl, rfl, rfl⟩, ⟨rfl, rfl, rfl⟩, trivial⟩ (fun ext => TL.on rfl rfl rfl (by simp) <| TL.indexAddr hF rfl rfl (hd0.tad dcl (by decide) (i := k) (by omega)) (by omega) (by omega) rfl TL.fin) ?_
      refine DR.stepV [_, _, _, _, _, _, _, _, _, _, _, _, _, _, _, _, _, _, _, _, _, _, _, _, _, _, _, _, _, _, _, _, _, _, _, _] rfl [(190, _, some 34), (174, _, some 18)] rfl rfl ⟨⟨rfl, rfl, rfl⟩, ⟨rfl, rfl, rfl⟩, trivial⟩ (fun ext => TL.on rfl rfl rfl (by simp) <| TL.loadA hF (DC[k]).cells rfl rfl (hd0.ro.tabA dcl (i := k) hkC) rfl TL.fin) ?_
      refine DR.done [(191, _), (190, _), (189, _), (188, _), (187, _), (186, _), (185, _), (184, _), (183, _), (182, _), (181, _), (180, _), (179, _), (178, _), (177, _), (176, _), (175, _), (174, _), (173, _), (172, _), (171, _), (170, _), (169, _), (168, _), (167, _), (166, _), (165, _), (164, _), (163, _), (162, _), (161, _), (160, _), (159, _), (158, _), (157, _), (156, _)] [_, _] mixed (by kernel_rfl) (by kernel_rfl) (by kernel_rfl) rfl rfl ?_
      refine TL.on rfl rfl rfl (by simp) ?_
      refine TL.neqA hF rfl rfl (by kernel_rfl) (fun w => eq53 DC[k] DC[k] w) rfl ?_
      refine TL.pickF hF rfl (by simp) rfl rfl ?_
      refine TL.nil ?_
      refine TQ.then_n ?_
      refine T.cond_f rfl (by simp) ?_
      refine T.skip ?_
      refine TQ.then_n ?_
      refine T.seq ?_
      have hri : 0 < k → DC[k].inst = (DC[k - 1]'(by omega)).inst → (DC[k - 1]'(by omega)).node < DC[k].node := fun h => List.pairwise_iff_getElem.1 hrC (k - 1) k (by omega) hkC (by omega)
      have hcs : k = 0 ∨ (0 < k ∧ (DC[k - 1]'(by omega)).inst = DC[k].inst) ∨ (0 < k ∧ ¬ (DC[k - 1]'(by omega)).inst = DC[k].inst) := by omega
      rcases hcs with hk0 | ⟨hk0, hin⟩ | ⟨hk0, hin⟩
      · refine T.draw ?_
        refine DR.stepV [_] rfl [(28, _, none)] rfl rfl ⟨⟨rfl, by kernel_rfl⟩, trivial⟩ (fun ext => TL.move hF rfl rfl TL.fin) ?_
        refine DR.stepV [_, _] rfl [(194, _, some 0)] rfl rfl ⟨⟨rfl, rfl, rfl⟩, trivial⟩ (fun ext => TL.bin hF rfl rfl rfl rfl TL.fin) ?_
        refine DR.stepV [_, _, _] rfl [(195, _, some 1)] rfl rfl ⟨⟨rfl, rfl, rfl⟩, trivial⟩ (fun ext => TL.move hF rfl rfl TL.fin) ?_
        refine DR.stepV [_, _, _, _] rfl [(15, _, none), (196, _, some 2)] rfl rfl ⟨⟨rfl, by kernel_rfl⟩, ⟨rfl, rfl, rfl⟩, trivial⟩ (fun ext => TL.off hF rfl rfl rfl (decide_eq_false (by omega)) rfl TL.fin) ?_
        refine DR.stepV [_, _, _, _, _] rfl [(28, _, none), (196, _, some 2)] rfl rfl ⟨⟨rfl, by kernel_rfl⟩, ⟨rfl, rfl, rfl⟩, trivial⟩ (fun ext => TL.off hF rfl rfl rfl (decide_eq_false (by omega)) rfl TL.fin) ?_
        refine DR.stepV [_, _, _, _, _, _] rfl [(198, _, some 4), (196, _, some 2)] rfl rfl ⟨⟨rfl, rfl, rfl⟩, ⟨rfl, rfl, rfl⟩, trivial⟩ (fun ext => TL.off hF rfl rfl rfl (decide_eq_false (by omega)) rfl TL.fin) ?_
        refine DR.stepV [_, _, _, _, _, _, _] rfl [(197, _, some 3), (199, _, some 5), (196, _, some 2)] rfl rfl ⟨⟨rfl, rfl, rfl⟩, ⟨rfl, rfl, rfl⟩, ⟨rfl, rfl, rfl⟩, trivial⟩ (fun ext => TL.off hF rfl rfl rfl (decide_eq_false (by omega)) rfl TL.fin) ?_
        refine DR.stepV [_, _, _, _, _, _, _, _] rfl [(200, _, some 6), (196, _, some 2)] rfl rfl ⟨⟨rfl, rfl, rfl⟩, ⟨rfl, rfl, rfl⟩, trivial⟩ (fun ext => TL.off hF rfl rfl rfl (decide_eq_false (by omega)) rfl TL.fin) ?_
        refine DR.stepV [_, _, _, _, _, _, _, _, _] rfl [(201, _, some 7), (196, _, some 2)] rfl rfl ⟨⟨rfl, rfl, rfl⟩, ⟨rfl, rfl, rfl⟩, trivial⟩ (fun ext => TL.off hF rfl rfl rfl (decide_eq_false (by omega)) rfl TL.fin) ?_
        refine DR.stepV [_, _, _, _, _, _, _, _, _, _] rfl [(15, _, none), (196, _, some 2)] rfl rfl ⟨⟨rfl, by kernel_rfl⟩, ⟨rfl, rfl, rfl⟩, trivial⟩ (fun ext => TL.off hF rfl rfl rfl (decide_eq_false (by omega)) rfl TL.fin) ?_
        refine DR.stepV [_, _, _, _, _, _, _, _, _, _, _] rfl [(28, _, none), (196, _, some 2)] rfl rfl ⟨⟨rfl, by kernel_rfl⟩, ⟨rfl, rfl, rfl⟩, trivial⟩ (fun ext => TL.off hF rfl rfl rfl (decide_eq_false (by omega)) rfl TL.fin) ?_
        refine DR.stepV [_, _, _, _, _, _, _, _, _, _, _, _] rfl [(203, _, some 9), (204, _, some 10), (196, _, some 2)] rfl rfl ⟨⟨rfl, rfl, rfl⟩, ⟨rfl, rfl, rfl⟩, ⟨rfl, rfl, rfl⟩, trivial⟩ (fun ext => TL.off hF rfl rfl rfl (decide_eq_false (by omega)) rfl TL.fin) ?_
        refine DR.stepV [_, _, _, _, _, _, _, _, _, _, _, _, _] rfl [(205, _, some 11), (196, _, some 2)] rfl rfl ⟨⟨rfl, rfl, rfl⟩, ⟨rfl, rfl, rfl⟩, trivial⟩ (fun ext => TL.off hF rfl rfl rfl (decide_eq_false (by omega)) rfl TL.fin) ?_
        refine DR.stepV [_, _, _, _, _, _, _, _, _, _, _, _, _, _] rfl [(206, _, some 12), (196, _, some 2)] rfl rfl ⟨⟨rfl, rfl, rfl⟩, ⟨rfl, rfl, rfl⟩, trivial⟩ (fun ext => TL.off hF rfl rfl rfl (decide_eq_false (by omega)) rfl TL.fin) ?_
        refine DR.stepV [_, _, _, _, _, _, _, _, _, _, _, _, _, _, _] rfl [(202, _, some 8), (207, _, some 13), (196, _, some 2)] rfl rfl ⟨⟨rfl, rfl, rfl⟩, ⟨rfl, rfl, rfl⟩, ⟨rfl, rfl, rfl⟩, trivial⟩ (fun ext => TL.off hF rfl rfl rfl (decide_eq_false (by omega)) rfl TL.fin) ?_
        refine DR.stepV [_, _, _, _, _, _, _, _, _, _, _, _, _, _, _, _] rfl [(196, _, some 2), (208, _, some 14)] rfl rfl ⟨⟨rfl, rfl, rfl⟩, ⟨rfl, rfl, rfl⟩, trivial⟩ (fun ext => TL.pickF hF rfl (decide_eq_false (by omega)) rfl rfl TL.fin) ?_
        refine DR.stepV [_, _, _, _, _, _, _, _, _, _, _, _, _, _, _, _, _] rfl [(209, _, some 15)] rfl rfl ⟨⟨rfl, rfl, rfl⟩, trivial⟩ (fun ext => TL.move hF rfl rfl TL.fin) ?_
        refine DR.stepV [_, _, _, _, _, _, _, _, _, _, _, _, _, _, _, _, _, _] rfl [(15, _, none), (210, _, some 16)] rfl rfl ⟨⟨rfl, by kernel_rfl⟩, ⟨rfl, rfl, rfl⟩, trivial⟩ (fun ext => TL.off hF rfl rfl rfl rfl rfl TL.fin) ?_
        refine DR.stepV [_, _, _, _, _, _, _, _, _, _, _, _, _, _, _, _, _, _, _] rfl [(28, _, none), (210, _, some 16)] rfl rfl ⟨⟨rfl, by kernel_rfl⟩, ⟨rfl, rfl, rfl⟩, trivial⟩ (fun ext => TL.off hF rfl rfl rfl rfl rfl TL.fin) ?_
        refine DR.stepV [_, _, _, _, _, _, _, _, _, _, _, _, _, _, _, _, _, _, _, _] rfl [(212, _, some 18), (210, _, some 16)] rfl rfl ⟨⟨rfl, rfl, rfl⟩, ⟨rfl, rfl, rfl⟩, trivial⟩ (fun ext => TL.off hF rfl rfl rfl rfl rfl TL.fin) ?_
        refine DR.stepV [_, _, _, _, _, _, _, _, _, _, _, _, _, _, _, _, _, _, _, _, _] rfl [(211, _, some 17), (213, _, some 19), (210, _, some 16)] rfl rfl ⟨⟨rfl, rfl, rfl⟩, ⟨rfl, rfl, rfl⟩, ⟨rfl, rfl, rfl⟩, trivial⟩ (fun ext => TL.off hF rfl rfl rfl rfl rfl TL.fin) ?_
        refine DR.stepV [_, _, _, _, _, _, _, _, _, _, _, _, _, _, _, _, _, _, _, _, _, _] rfl [(214, _, some 20), (210, _, some 16)] rfl rfl ⟨⟨rfl, rfl, rfl⟩, ⟨rfl, rfl, rfl⟩, trivial⟩ (fun ext => TL.off hF rfl rfl rfl rfl rfl TL.fin) ?_
        refine DR.stepV [_, _, _, _, _, _, _, _, _, _, _, _, _, _, _, _, _, _, _, _, _, _, _] rfl [(215, _, some 21), (210, _, some 16)] rfl rfl ⟨⟨rfl, rfl, rfl⟩, ⟨rfl, rfl, rfl⟩, trivial⟩ (fun ext => TL.off hF rfl rfl rfl rfl rfl TL.fin) ?_
        refine DR.stepV [_, _, _, _, _, _, _, _, _, _, _, _, _, _, _, _, _, _, _, _, _, _, _, _] rfl [(15, _, none), (210, _, some 16)] rfl rfl ⟨⟨rfl, by kernel_rfl⟩, ⟨rfl, rfl, rfl⟩, trivial⟩ (fun ext => TL.off hF rfl rfl rfl rfl rfl TL.fin) ?_
        refine DR.stepV [_, _, _, _, _, _, _, _, _, _, _, _, _, _, _, _, _, _, _, _, _, _, _, _, _] rfl [(28, _, none), (210, _, some 16)] rfl rfl ⟨⟨rfl, by kernel_rfl⟩, ⟨rfl, rfl, rfl⟩, trivial⟩ (fun ext => TL.off hF rfl rfl rfl rfl rfl TL.fin) ?_
        refine DR.stepV [_, _, _, _, _, _, _, _, _, _, _, _, _, _, _, _, _, _, _, _, _, _, _, _, _, _] rfl [(217, _, some 23), (218, _, some 24), (210, _, some 16)] rfl rfl ⟨⟨rfl, rfl, rfl⟩, ⟨rfl, rfl, rfl⟩, ⟨rfl, rfl, rfl⟩, trivial⟩ (fun ext => TL.off hF rfl rfl rfl rfl rfl TL.fin) ?_
        refine DR.stepV [_, _, _, _, _, _, _, _, _, _, _, _, _, _, _, _, _, _, _, _, _, _, _, _, _, _, _] rfl [(219, _, some 25), (210, _, some 16)] rfl rfl ⟨⟨rfl, rfl, rfl⟩, ⟨rfl, rfl, rfl⟩, trivial⟩ (fun ext => TL.off hF rfl rfl rfl rfl rfl TL.fin) ?_
        refine DR.stepV [_, _, _, _, _, _, _, _, _, _, _, _, _, _, _, _, _, _, _, _, _, _, _, _, _, _, _, _] rfl [(220, _, some 26), (210, _, some 16)] rfl rfl ⟨⟨rfl, rfl, rfl⟩, ⟨rfl, rfl, rfl⟩, trivial⟩ (fun ext => TL.off hF rfl rfl rfl rfl rfl TL.fin) ?_
        refine DR.done [(221, _), (220, _), (219, _), (218, _), (217, _), (216, _), (215, _), (214, _), (213, _), (212, _), (211, _), (210, _), (209, _), (208, _), (207, _), (206, _), (205, _), (204, _), (203, _), (202, _), (201, _), (200, _), (199, _), (198, _), (197, _), (196, _), (195, _), (194, _)] [_, _] mixed (by kernel_rfl) (by kernel_rfl) (by kernel_rfl) rfl rfl ?_
        refine TL.off hF rfl rfl rfl rfl rfl ?_
        refine TL.pickF hF rfl rfl rfl rfl ?_
        refine TL.nil ?_
        refine TQ.then_n ?_
        refine T.cond_f rfl rfl ?_
        refine T.skip ?_
        refine TQ.block_n ?_
        refine TQ.then_n ?_
        refine T.region ?_
        refine TL.add hF rfl rfl (by omega) (by omega) rfl ?_
        refine TL.move hF rfl rfl ?_
        refine TL.nil ?_
        exact TQ.round (k + 1) (by omega) (by omega) ⟨rfl, rfl, rfl, rfl, rfl, rfl, trivial⟩ rfl
      · refine T.draw ?_
        refine DR.stepV [_] rfl [(28, _, none)] rfl rfl ⟨⟨rfl, by kernel_rfl⟩, trivial⟩ (fun ext => TL.move hF rfl rfl TL.fin) ?_
        refine DR.stepV [_, _] rfl [(194, _, some 0)] rfl rfl ⟨⟨rfl, rfl, rfl⟩, trivial⟩ (fun ext => TL.bin hF rfl rfl rfl rfl TL.fin) ?_
        refine DR.stepV [_, _, _] rfl [(195, _, some 1)] rfl rfl ⟨⟨rfl, rfl, rfl⟩, trivial⟩ (fun ext => TL.move hF rfl rfl TL.fin) ?_
        refine DR.stepV [_, _, _, _] rfl [(15, _, none), (196, _, some 2)] rfl rfl ⟨⟨rfl, by kernel_rfl⟩, ⟨rfl, rfl, rfl⟩, trivial⟩ (fun ext => TL.on rfl rfl rfl (decide_eq_true (by omega)) <| TL.move hF rfl rfl TL.fin) ?_
        refine DR.stepV [_, _, _, _, _] rfl [(28, _, none), (196, _, some 2)] rfl rfl ⟨⟨rfl, by kernel_rfl⟩, ⟨rfl, rfl, rfl⟩, trivial⟩ (fun ext => TL.on rfl rfl rfl (decide_eq_true (by omega)) <| TL.move hF rfl rfl TL.fin) ?_
        refine DR.stepV [_, _, _, _, _, _] rfl [(198, _, some 4), (196, _, some 2)] rfl rfl ⟨⟨rfl, rfl, rfl⟩, ⟨rfl, rfl, rfl⟩, trivial⟩ (fun ext => TL.on rfl rfl rfl (decide_eq_true (by omega)) <| TL.sub hF rfl rfl (by omega) (by omega) rfl TL.fin) ?_
        refine DR.stepV [_, _, _, _, _, _, _] rfl [(197, _, some 3), (199, _, some 5), (196, _, some 2)] rfl rfl ⟨⟨rfl, rfl, rfl⟩, ⟨rfl, rfl, rfl⟩, ⟨rfl, rfl, rfl⟩, trivial⟩ (fun ext => TL.on rfl rfl rfl (decide_eq_true (by omega)) <| TL.indexAddr hF rfl rfl (hd0.tad dcl (by decide) (i := k - 1) (by omega)) (by omega) (by omega) rfl TL.fin) ?_
        refine DR.stepV [_, _, _, _, _, _, _, _] rfl [(200, _, some 6), (196, _, some 2)] rfl rfl ⟨⟨rfl, rfl, rfl⟩, ⟨rfl, rfl, rfl⟩, trivial⟩ (fun ext => TL.on rfl rfl rfl (decide_eq_true (by omega)) <| TL.fieldAddr hF rfl rfl TL.fin) ?_
        refine DR.stepV [_, _, _, _, _, _, _, _, _] rfl [(201, _, some 7), (196, _, some 2)] rfl rfl ⟨⟨rfl, rfl, rfl⟩, ⟨rfl, rfl, rfl⟩, trivial⟩ (fun ext => TL.on rfl rfl rfl (decide_eq_true (by omega)) <| TL.load hF rfl (v := .int .i64 (DC[k - 1]'(by omega)).inst) (by rw [show ((k : Int) - 1).toNat = k - 1 by omega]; exact hd0.ro.tab dcl (i := k - 1) (by omega) 0 rfl) rfl TL.fin) ?_
        refine DR.stepV [_, _, _, _, _, _, _, _, _, _] rfl [(15, _, none), (196, _, some 2)] rfl rfl ⟨⟨rfl, by kernel_rfl⟩, ⟨rfl, rfl, rfl⟩, trivial⟩ (fun ext => TL.on rfl rfl rfl (decide_eq_true (by omega)) <| TL.move hF rfl rfl TL.fin) ?_
        refine DR.stepV [_, _, _, _, _, _, _, _, _, _, _] rfl [(28, _, none), (196, _, some 2)] rfl rfl ⟨⟨rfl, by kernel_rfl⟩, ⟨rfl, rfl, rfl⟩, trivial⟩ (fun ext => TL.on rfl rfl rfl (decide_eq_true (by omega)) <| TL.move hF rfl rfl TL.fin) ?_
        refine DR.stepV [_, _, _, _, _, _, _, _, _, _, _, _] rfl [(203, _, some 9), (204, _, some 10), (196, _, some 2)] rfl rfl ⟨⟨rfl, rfl, rfl⟩, ⟨rfl, rfl, rfl⟩, ⟨rfl, rfl, rfl⟩, trivial⟩ (fun ext => TL.on rfl rfl rfl (decide_eq_true (by omega)) <| TL.indexAddr hF rfl rfl (hd0.tad dcl (by decide) (i := k) (by omega)) (by omega) (by omega) rfl TL.fin) ?_
        refine DR.stepV [_, _, _, _, _, _, _, _, _, _, _, _, _] rfl [(205, _, some 11), (196, _, some 2)] rfl rfl ⟨⟨rfl, rfl, rfl⟩, ⟨rfl, rfl, rfl⟩, trivial⟩ (fun ext => TL.on rfl rfl rfl (decide_eq_true (by omega)) <| TL.fieldAddr hF rfl rfl TL.fin) ?_
        refine DR.stepV [_, _, _, _, _, _, _, _, _, _, _, _, _, _] rfl [(206, _, some 12), (196, _, some 2)] rfl rfl ⟨⟨rfl, rfl, rfl⟩, ⟨rfl, rfl, rfl⟩, trivial⟩ (fun ext => TL.on rfl rfl rfl (decide_eq_true (by omega)) <| TL.load hF rfl (hd0.ro.tab dcl (i := k) hkC 0 rfl) rfl TL.fin) ?_
        refine DR.stepV [_, _, _, _, _, _, _, _, _, _, _, _, _, _, _] rfl [(202, _, some 8), (207, _, some 13), (196, _, some 2)] rfl rfl ⟨⟨rfl, rfl, rfl⟩, ⟨rfl, rfl, rfl⟩, ⟨rfl, rfl, rfl⟩, trivial⟩ (fun ext => TL.on rfl rfl rfl (decide_eq_true (by omega)) <| TL.bin hF rfl rfl rfl rfl TL.fin) ?_
        refine DR.stepV [_, _, _, _, _, _, _, _, _, _, _, _, _, _, _, _] rfl [(196, _, some 2), (208, _, some 14)] rfl rfl ⟨⟨rfl, rfl, rfl⟩, ⟨rfl, rfl, rfl⟩, trivial⟩ (fun ext => TL.pickT hF rfl (decide_eq_true (by omega)) rfl rfl TL.fin) ?_
        refine DR.stepV [_, _, _, _, _, _, _, _, _, _, _, _, _, _, _, _, _] rfl [(209, _, some 15)] rfl rfl ⟨⟨rfl, rfl, rfl⟩, trivial⟩ (fun ext => TL.move hF rfl rfl TL.fin) ?_
        refine DR.stepV [_, _, _, _, _, _, _, _, _, _, _, _, _, _, _, _, _, _] rfl [(15, _, none), (210, _, some 16)] rfl rfl ⟨⟨rfl, by kernel_rfl⟩, ⟨rfl, rfl, rfl⟩, trivial⟩ (fun ext => TL.on rfl rfl rfl (decide_eq_true hin) <| TL.move hF rfl rfl TL.fin) ?_
        refine DR.stepV [_, _, _, _, _, _, _, _, _, _, _, _, _, _, _, _, _, _, _] rfl [(28, _, none), (210, _, some 16)] rfl rfl ⟨⟨rfl, by kernel_rfl⟩, ⟨rfl, rfl, rfl⟩, trivial⟩ (fun ext => TL.on rfl rfl rfl (decide_eq_true hin) <| TL.move hF rfl rfl TL.fin) ?_
        refine DR.stepV [_, _, _, _, _, _, _, _, _, _, _, _, _, _, _, _, _, _, _, _] rfl [(212, _, some 18), (210, _, some 16)] rfl rfl ⟨⟨rfl, rfl, rfl⟩, ⟨rfl, rfl, rfl⟩, trivial⟩ (fun ext => TL.on rfl rfl rfl (decide_eq_true hin) <| TL.sub hF rfl rfl (by omega) (by omega) rfl TL.fin) ?_
        refine DR.stepV [_, _, _, _, _, _, _, _, _, _, _, _, _, _, _, _, _, _, _, _, _] rfl [(211, _, some 17), (213, _, some 19), (210, _, some 16)] rfl rfl ⟨⟨rfl, rfl, rfl⟩, ⟨rfl, rfl, rfl⟩, ⟨rfl, rfl, rfl⟩, trivial⟩ (fun ext => TL.on rfl rfl rfl (decide_eq_true hin) <| TL.indexAddr hF rfl rfl (hd0.tad dcl (by decide) (i := k - 1) (by omega)) (by omega) (by omega) rfl TL.fin) ?_
        refine DR.stepV [_, _, _, _, _, _, _, _, _, _, _, _, _, _, _, _, _, _, _, _, _, _] rfl [(214, _, some 20), (210, _, some 16)] rfl rfl ⟨⟨rfl, rfl, rfl⟩, ⟨rfl, rfl, rfl⟩, trivial⟩ (fun ext => TL.on rfl rfl rfl (decide_eq_true hin) <| TL.fieldAddr hF rfl rfl TL.fin) ?_
        refine DR.stepV [_, _, _, _, _, _, _, _, _, _, _, _, _, _, _, _, _, _, _, _, _, _, _] rfl [(215, _, some 21), (210, _, some 16)] rfl rfl ⟨⟨rfl, rfl, rfl⟩, ⟨rfl, rfl, rfl⟩, trivial⟩ (fun ext => TL.on rfl rfl rfl (decide_eq_true hin) <| TL.load hF rfl (v := .int .i64 (DC[k - 1]'(by omega)).node) (by rw [show ((k : Int) - 1).toNat = k - 1 by omega]; exact hd0.ro.tab dcl (i := k - 1) (by omega) 1 rfl) rfl TL.fin) ?_
        refine DR.stepV [_, _, _, _, _, _, _, _, _, _, _, _, _, _, _, _, _, _, _, _, _, _, _, _] rfl [(15, _, none), (210, _, some 16)] rfl rfl ⟨⟨rfl, by kernel_rfl⟩, ⟨rfl, rfl, rfl⟩, trivial⟩ (fun ext => TL.on rfl rfl rfl (decide_eq_true hin) <| TL.move hF rfl rfl TL.fin) ?_
        refine DR.stepV [_, _, _, _, _, _, _, _, _, _, _, _, _, _, _, _, _, _, _, _, _, _, _, _, _] rfl [(28, _, none), (210, _, some 16)] rfl rfl ⟨⟨rfl, by kernel_rfl⟩, ⟨rfl, rfl, rfl⟩, trivial⟩ (fun ext => TL.on rfl rfl rfl (decide_eq_true hin) <| TL.move hF rfl rfl TL.fin) ?_
        refine DR.stepV [_, _, _, _, _, _, _, _, _, _, _, _, _, _, _, _, _, _, _, _, _, _, _, _, _, _] rfl [(217, _, some 23), (218, _, some 24), (210, _, some 16)] rfl rfl ⟨⟨rfl, rfl, rfl⟩, ⟨rfl, rfl, rfl⟩, ⟨rfl, rfl, rfl⟩, trivial⟩ (fun ext => TL.on rfl rfl rfl (decide_eq_true hin) <| TL.indexAddr hF rfl rfl (hd0.tad dcl (by decide) (i := k) (by omega)) (by omega) (by omega) rfl TL.fin) ?_
        refine DR.stepV [_, _, _, _, _, _, _, _, _, _, _, _, _, _, _, _, _, _, _, _, _, _, _, _, _, _, _] rfl [(219, _, some 25), (210, _, some 16)] rfl rfl ⟨⟨rfl, rfl, rfl⟩, ⟨rfl, rfl, rfl⟩, trivial⟩ (fun ext => TL.on rfl rfl rfl (decide_eq_true hin) <| TL.fieldAddr hF rfl rfl TL.fin) ?_
        refine DR.stepV [_, _, _, _, _, _, _, _, _, _, _, _, _, _, _, _, _, _, _, _, _, _, _, _, _, _, _, _] rfl [(220, _, some 26), (210, _, some 16)] rfl rfl ⟨⟨rfl, rfl, rfl⟩, ⟨rfl, rfl, rfl⟩, trivial⟩ (fun ext => TL.on rfl rfl rfl (decide_eq_true hin) <| TL.load hF rfl (hd0.ro.tab dcl (i := k) hkC 1 rfl) rfl TL.fin) ?_
        refine DR.done [(221, _), (220, _), (219, _), (218, _), (217, _), (216, _), (215, _), (214, _), (213, _), (212, _), (211, _), (210, _), (209, _), (208, _), (207, _), (206, _), (205, _), (204, _), (203, _), (202, _), (201, _), (200, _), (199, _), (198, _), (197, _), (196, _), (195, _), (194, _)] [_, _] mixed (by kernel_rfl) (by kernel_rfl) (by kernel_rfl) rfl rfl ?_
        refine TL.on rfl rfl rfl (decide_eq_true hin) ?_
        refine TL.bin hF rfl rfl rfl rfl ?_
        refine TL.pickT hF rfl (decide_eq_true hin) rfl rfl ?_
        refine TL.nil ?_
        refine TQ.then_n ?_
        refine T.cond_f rfl (by first | rfl | (have := hri hk0 hin.symm; simp; omega)) ?_
        refine T.skip ?_
        refine TQ.block_n ?_
        refine TQ.then_n ?_
        refine T.region ?_
        refine TL.add hF rfl rfl (by omega) (by omega) rfl ?_
        refine TL.move hF rfl rfl ?_
        refine TL.nil ?_
        exact TQ.round (k + 1) (by omega) (by omega) ⟨rfl, rfl, rfl, rfl, rfl, rfl, trivial⟩ rfl
      · refine T.draw ?_
        refine DR.stepV [_] rfl [(28, _, none)] rfl rfl ⟨⟨rfl, by kernel_rfl⟩, trivial⟩ (fun ext => TL.move hF rfl rfl TL.fin) ?_
        refine DR.stepV [_, _] rfl [(194, _, some 0)] rfl rfl ⟨⟨rfl, rfl, rfl⟩, trivial⟩ (fun ext => TL.bin hF rfl rfl rfl rfl TL.fin) ?_
        refine DR.stepV [_, _, _] rfl [(195, _, some 1)] rfl rfl ⟨⟨rfl, rfl, rfl⟩, trivial⟩ (fun ext => TL.move hF rfl rfl TL.fin) ?_
        refine DR.stepV [_, _, _, _] rfl [(15, _, none), (196, _, some 2)] rfl rfl ⟨⟨rfl, by kernel_rfl⟩, ⟨rfl, rfl, rfl⟩, trivial⟩ (fun ext => TL.on rfl rfl rfl (decide_eq_true (by omega)) <| TL.move hF rfl rfl TL.fin) ?_
        refine DR.stepV [_, _, _, _, _] rfl [(28, _, none), (196, _, some 2)] rfl rfl ⟨⟨rfl, by kernel_rfl⟩, ⟨rfl, rfl, rfl⟩, trivial⟩ (fun ext => TL.on rfl rfl rfl (decide_eq_true (by omega)) <| TL.move hF rfl rfl TL.fin) ?_
        refine DR.stepV [_, _, _, _, _, _] rfl [(198, _, some 4), (196, _, some 2)] rfl rfl ⟨⟨rfl, rfl, rfl⟩, ⟨rfl, rfl, rfl⟩, trivial⟩ (fun ext => TL.on rfl rfl rfl (decide_eq_true (by omega)) <| TL.sub hF rfl rfl (by omega) (by omega) rfl TL.fin) ?_
        refine DR.stepV [_, _, _, _, _, _, _] rfl [(197, _, some 3), (199, _, some 5), (196, _, some 2)] rfl rfl ⟨⟨rfl, rfl, rfl⟩, ⟨rfl, rfl, rfl⟩, ⟨rfl, rfl, rfl⟩, trivial⟩ (fun ext => TL.on rfl rfl rfl (decide_eq_true (by omega)) <| TL.indexAddr hF rfl rfl (hd0.tad dcl (by decide) (i := k - 1) (by omega)) (by omega) (by omega) rfl TL.fin) ?_
        refine DR.stepV [_, _, _, _, _, _, _, _] rfl [(200, _, some 6), (196, _, some 2)] rfl rfl ⟨⟨rfl, rfl, rfl⟩, ⟨rfl, rfl, rfl⟩, trivial⟩ (fun ext => TL.on rfl rfl rfl (decide_eq_true (by omega)) <| TL.fieldAddr hF rfl rfl TL.fin) ?_
        refine DR.stepV [_, _, _, _, _, _, _, _, _] rfl [(201, _, some 7), (196, _, some 2)] rfl rfl ⟨⟨rfl, rfl, rfl⟩, ⟨rfl, rfl, rfl⟩, trivial⟩ (fun ext => TL.on rfl rfl rfl (decide_eq_true (by omega)) <| TL.load hF rfl (v := .int .i64 (DC[k - 1]'(by omega)).inst) (by rw [show ((k : Int) - 1).toNat = k - 1 by omega]; exact hd0.ro.tab dcl (i := k - 1) (by omega) 0 rfl) rfl TL.fin) ?_
        refine DR.stepV [_, _, _, _, _, _, _, _, _, _] rfl [(15, _, none), (196, _, some 2)] rfl rfl ⟨⟨rfl, by kernel_rfl⟩, ⟨rfl, rfl, rfl⟩, trivial⟩ (fun ext => TL.on rfl rfl rfl (decide_eq_true (by omega)) <| TL.move hF rfl rfl TL.fin) ?_
        refine DR.stepV [_, _, _, _, _, _, _, _, _, _, _] rfl [(28, _, none), (196, _, some 2)] rfl rfl ⟨⟨rfl, by kernel_rfl⟩, ⟨rfl, rfl, rfl⟩, trivial⟩ (fun ext => TL.on rfl rfl rfl (decide_eq_true (by omega)) <| TL.move hF rfl rfl TL.fin) ?_
        refine DR.stepV [_, _, _, _, _, _, _, _, _, _, _, _] rfl [(203, _, some 9), (204, _, some 10), (196, _, some 2)] rfl rfl ⟨⟨rfl, rfl, rfl⟩, ⟨rfl, rfl, rfl⟩, ⟨rfl, rfl, rfl⟩, trivial⟩ (fun ext => TL.on rfl rfl rfl (decide_eq_true (by omega)) <| TL.indexAddr hF rfl rfl (hd0.tad dcl (by decide) (i := k) (by omega)) (by omega) (by omega) rfl TL.fin) ?_
        refine DR.stepV [_, _, _, _, _, _, _, _, _, _, _, _, _] rfl [(205, _, some 11), (196, _, some 2)] rfl rfl ⟨⟨rfl, rfl, rfl⟩, ⟨rfl, rfl, rfl⟩, trivial⟩ (fun ext => TL.on rfl rfl rfl (decide_eq_true (by omega)) <| TL.fieldAddr hF rfl rfl TL.fin) ?_
        refine DR.stepV [_, _, _, _, _, _, _, _, _, _, _, _, _, _] rfl [(206, _, some 12), (196, _, some 2)] rfl rfl ⟨⟨rfl, rfl, rfl⟩, ⟨rfl, rfl, rfl⟩, trivial⟩ (fun ext => TL.on rfl rfl rfl (decide_eq_true (by omega)) <| TL.load hF rfl (hd0.ro.tab dcl (i := k) hkC 0 rfl) rfl TL.fin) ?_
        refine DR.stepV [_, _, _, _, _, _, _, _, _, _, _, _, _, _, _] rfl [(202, _, some 8), (207, _, some 13), (196, _, some 2)] rfl rfl ⟨⟨rfl, rfl, rfl⟩, ⟨rfl, rfl, rfl⟩, ⟨rfl, rfl, rfl⟩, trivial⟩ (fun ext => TL.on rfl rfl rfl (decide_eq_true (by omega)) <| TL.bin hF rfl rfl rfl rfl TL.fin) ?_
        refine DR.stepV [_, _, _, _, _, _, _, _, _, _, _, _, _, _, _, _] rfl [(196, _, some 2), (208, _, some 14)] rfl rfl ⟨⟨rfl, rfl, rfl⟩, ⟨rfl, rfl, rfl⟩, trivial⟩ (fun ext => TL.pickT hF rfl (decide_eq_true (by omega)) rfl rfl TL.fin) ?_
        refine DR.stepV [_, _, _, _, _, _, _, _, _, _, _, _, _, _, _, _, _] rfl [(209, _, some 15)] rfl rfl ⟨⟨rfl, rfl, rfl⟩, trivial⟩ (fun ext => TL.move hF rfl rfl TL.fin) ?_
        refine DR.stepV [_, _, _, _, _, _, _, _, _, _, _, _, _, _, _, _, _, _] rfl [(15, _, none), (210, _, some 16)] rfl rfl ⟨⟨rfl, by kernel_rfl⟩, ⟨rfl, rfl, rfl⟩, trivial⟩ (fun ext => TL.off hF rfl rfl rfl (decide_eq_false hin) rfl TL.fin) ?_
        refine DR.stepV [_, _, _, _, _, _, _, _, _, _, _, _, _, _, _, _, _, _, _] rfl [(28, _, none), (210, _, some 16)] rfl rfl ⟨⟨rfl, by kernel_rfl⟩, ⟨rfl, rfl, rfl⟩, trivial⟩ (fun ext => TL.off hF rfl rfl rfl (decide_eq_false hin) rfl TL.fin) ?_
        refine DR.stepV [_, _, _, _, _, _, _, _, _, _, _, _, _, _, _, _, _, _, _, _] rfl [(212, _, some 18), (210, _, some 16)] rfl rfl ⟨⟨rfl, rfl, rfl⟩, ⟨rfl, rfl, rfl⟩, trivial⟩ (fun ext => TL.off hF rfl rfl rfl (decide_eq_false hin) rfl TL.fin) ?_
        refine DR.stepV [_, _, _, _, _, _, _, _, _, _, _, _, _, _, _, _, _, _, _, _, _] rfl [(211, _, some 17), (213, _, some 19), (210, _, some 16)] rfl rfl ⟨⟨rfl, rfl, rfl⟩, ⟨rfl, rfl, rfl⟩, ⟨rfl, rfl, rfl⟩, trivial⟩ (fun ext => TL.off hF rfl rfl rfl (decide_eq_false hin) rfl TL.fin) ?_
        refine DR.stepV [_, _, _, _, _, _, _, _, _, _, _, _, _, _, _, _, _, _, _, _, _, _] rfl [(214, _, some 20), (210, _, some 16)] rfl rfl ⟨⟨rfl, rfl, rfl⟩, ⟨rfl, rfl, rfl⟩, trivial⟩ (fun ext => TL.off hF rfl rfl rfl (decide_eq_false hin) rfl TL.fin) ?_
        refine DR.stepV [_, _, _, _, _, _, _, _, _, _, _, _, _, _, _, _, _, _, _, _, _, _, _] rfl [(215, _, some 21), (210, _, some 16)] rfl rfl ⟨⟨rfl, rfl, rfl⟩, ⟨rfl, rfl, rfl⟩, trivial⟩ (fun ext => TL.off hF rfl rfl rfl (decide_eq_false hin) rfl TL.fin) ?_
        refine DR.stepV [_, _, _, _, _, _, _, _, _, _, _, _, _, _, _, _, _, _, _, _, _, _, _, _] rfl [(15, _, none), (210, _, some 16)] rfl rfl ⟨⟨rfl, by kernel_rfl⟩, ⟨rfl, rfl, rfl⟩, trivial⟩ (fun ext => TL.off hF rfl rfl rfl (decide_eq_false hin) rfl TL.fin) ?_
        refine DR.stepV [_, _, _, _, _, _, _, _, _, _, _, _, _, _, _, _, _, _, _, _, _, _, _, _, _] rfl [(28, _, none), (210, _, some 16)] rfl rfl ⟨⟨rfl, by kernel_rfl⟩, ⟨rfl, rfl, rfl⟩, trivial⟩ (fun ext => TL.off hF rfl rfl rfl (decide_eq_false hin) rfl TL.fin) ?_
        refine DR.stepV [_, _, _, _, _, _, _, _, _, _, _, _, _, _, _, _, _, _, _, _, _, _, _, _, _, _] rfl [(217, _, some 23), (218, _, some 24), (210, _, some 16)] rfl rfl ⟨⟨rfl, rfl, rfl⟩, ⟨rfl, rfl, rfl⟩, ⟨rfl, rfl, rfl⟩, trivial⟩ (fun ext => TL.off hF rfl rfl rfl (decide_eq_false hin) rfl TL.fin) ?_
        refine DR.stepV [_, _, _, _, _, _, _, _, _, _, _, _, _, _, _, _, _, _, _, _, _, _, _, _, _, _, _] rfl [(219, _, some 25), (210, _, some 16)] rfl rfl ⟨⟨rfl, rfl, rfl⟩, ⟨rfl, rfl, rfl⟩, trivial⟩ (fun ext => TL.off hF rfl rfl rfl (decide_eq_false hin) rfl TL.fin) ?_
        refine DR.stepV [_, _, _, _, _, _, _, _, _, _, _, _, _, _, _, _, _, _, _, _, _, _, _, _, _, _, _, _] rfl [(220, _, some 26), (210, _, some 16)] rfl rfl ⟨⟨rfl, rfl, rfl⟩, ⟨rfl, rfl, rfl⟩, trivial⟩ (fun ext => TL.off hF rfl rfl rfl (decide_eq_false hin) rfl TL.fin) ?_
        refine DR.done [(221, _), (220, _), (219, _), (218, _), (217, _), (216, _), (215, _), (214, _), (213, _), (212, _), (211, _), (210, _), (209, _), (208, _), (207, _), (206, _), (205, _), (204, _), (203, _), (202, _), (201, _), (200, _), (199, _), (198, _), (197, _), (196, _), (195, _), (194, _)] [_, _] mixed (by kernel_rfl) (by kernel_rfl) (by kernel_rfl) rfl rfl ?_
        refine TL.off hF rfl rfl rfl (decide_eq_false hin) rfl ?_
        refine TL.pickF hF rfl (decide_eq_false hin) rfl rfl ?_
        refine TL.nil ?_
        refine TQ.then_n ?_
        refine T.cond_f rfl rfl ?_
        refine T.skip ?_
        refine TQ.block_n ?_
        refine TQ.then_n ?_
        refine T.region ?_
        refine TL.add hF rfl rfl (by omega) (by omega) rfl ?_
        refine TL.move hF rfl rfl ?_
        refine TL.nil ?_
        exact TQ.round (k + 1) (by omega) (by omega) ⟨rfl, rfl, rfl, rfl, rfl, rfl, trivial⟩ rfl
    · refine T.exit ?_
      refine TQ.then_x ?_
      refine TQ.then_x ?_
      refine TQ.block_x ?_
      refine TQ.then_n ?_
      refine T.seq ?_
      refine T.region ?_
      refine TL.hsub [] (List.nil_sublist _) ?_
      refine TL.call hF (awake_fn hg) rfl rfl ?_
      rintro _ _ rfl
      refine TL.assign hF rfl rfl ?_
      refine TL.nil ?_
      refine TQ.then_n ?_
      refine T.ret ?_
      exact TQ.retsF [8] _ hb rfl rfl rfl (fun _ => rfl)
end Go.Proofs.YtefkmiomldhmjaaDoor
