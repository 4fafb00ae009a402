/- ChainTop is the reference's. Of every input that the given statement lets in. -/
import Derived.Test.YtiigdbmfpibbdaaOpenV
import Derived.Test.YtiigdbmfpibbdaaTopW2
import Derived.Test.YtiigdbmfpibbdaaMarkV
import Derived.Test.YtiigdbmfpibbdaaTwo
namespace Go.Proofs.Ytiigdbmfpibbdaa.fnExactChainTop
open Go.ChangeShapes Go.WideShapes Go.ChangeAt Go.RowKit
set_option linter.unusedVariables false
theorem sum_filter (l : List Vp) (p : Vp → Bool) : ((l.filter p).map fun v => v.deps.length).sum ≤ (l.map fun v => v.deps.length).sum := by
  induction l with
  | nil => simp
  | cons v l ih => rw [List.filter_cons]; split <;> simp <;> omega
theorem sumD_as (l : List Mv) : sumD l = ((vs l).map fun v => v.deps.length).sum := by simp [sumD, vs, Function.comp_def]
theorem cnt_size {l : List Mv} (h : sizeM l ≤ 1048576) : cntM l ≤ 6291456 := by unfold sizeM at h; unfold cntM; omega
theorem cnt_vs {l m : List Mv} (h : vs m = vs l) (hs : sizeM l ≤ 1048576) : cntM m ≤ 6291456 := by
  refine cnt_size ?_
  unfold sizeM at hs ⊢
  rw [sumD_vs h, ← vs_len m, h, vs_len]; exact hs
theorem filt_size {l m : List Mv} {p : Vp → Bool} (h : vs m = (vs l).filter p) (hs : sizeM l ≤ 1048576) : sizeM m ≤ 1048576 := by
  have h1 : sumD m ≤ sumD l := by rw [sumD_as, sumD_as, h]; exact sum_filter _ _
  have h2 : m.length ≤ l.length := by rw [← vs_len m, h, ← vs_len l]; exact List.length_filter_le _ _
  unfold sizeM at hs ⊢; omega
theorem nil_size {m : List Mv} (h : vs m = []) : sizeM m ≤ 1048576 := by
  have : m = [] := by cases m with
    | nil => rfl
    | cons a l => simp [vs] at h
  subst this; simp [sizeM, sumD]
theorem slot_in {l m : List Mv} {s : Int} (h : vs m = slotIn (vs l) s) (hs : sizeM l ≤ 1048576) : Few m ∧ cntM m ≤ 6291456 := by
  have : sizeM m ≤ 1048576 := by
    unfold slotIn at h; split at h
    · exact filt_size h hs
    · exact nil_size h
  exact ⟨few_of this, cnt_size this⟩
theorem slot_out {l m : List Mv} {s : Int} (h : vs m = slotOut (vs l) s) (hs : sizeM l ≤ 1048576) : Few m ∧ cntM m ≤ 6291456 := by
  have : sizeM m ≤ 1048576 := by
    unfold slotOut at h; split at h
    · exact filt_size h hs
    · exact nil_size h
  exact ⟨few_of this, cnt_size this⟩
theorem two_but {S : Nat → Prop} {N : Nat} {w w' : World} {v u : Value} {A B : List Mv} (h : OwnTwo N w v u A B) (hb : But S w w') (h1 : ∀ i, BlksOf v A i → ¬ S i) (h2 : ∀ i, BlksOf u B i → ¬ S i) : OwnTwo N w' v u A B := by
  have x := h.fst.but hb h1
  have y := h.snd.but hb h2
  refine ⟨x.own, y.own, h.ap, fun m hm => ?_, h.inn.apart⟩
  rcases List.mem_append.1 hm with hm | hm
  · exact x.inn.row m hm
  · exact y.inn.row m hm
theorem versM {N n c : Nat} {w : World} {a : Option Addr} {l : List Mv} (h : OwnVers N w (.slice a n c) l) (hn : l.length = n) : Vers w a c l := by subst hn; exact h.vers
theorem _root_.Go.Proofs.Ytiigdbmfpibbdaa.Blk.set7 {w : World} {b g : Nat} {cs cs' : Array Value} {T T' : TypeId} (h : Blk w b cs T) (hz : Blk w g cs' T') (hn : b ≠ g) (u0 u1 u2 u3 u4 u5 u6 : Value) :
    Blk (((((((w.setCell ⟨g, 0, none⟩ u0).setCell ⟨g, 1, none⟩ u1).setCell ⟨g, 2, none⟩ u2).setCell ⟨g, 3, none⟩ u3).setCell ⟨g, 4, none⟩ u4).setCell ⟨g, 5, none⟩ u5).setCell ⟨g, 6, none⟩ u6) b cs T := ((((((h.setb hn u0).setb hn u1).setb hn u2).setb hn u3).setb hn u4).setb hn u5).setb hn u6
theorem own_ne_lt {w : World} {N k n b : Nat} {T : TypeId} {v : Value} {xs : List Value} (h : w.ownsRow N T k v n xs) (hb : w.heap.size ≤ b) : v.ownBlock ≠ some b := own_ne h hb
theorem OwnVers.set' {N g o : Nat} {w : World} {v : Value} {l : List Mv} (h : OwnVers N w v l) (hg : ¬ BlksOf v l g) (u : Value) : OwnVers N (w.setCell ⟨g, o, none⟩ u) v l :=
  ⟨own_set h.own (fun e => hg (.inl e)) u, h.inn.set' (fun m hm e => hg (.inr ⟨m, hm, e⟩)) u⟩
/-- A version and a bool come back, both known. -/
def GivesVB (V : Vp) (b : Bool) (w : World) (e : Ending) (w' : World) : Prop := ∃ (a : Option Addr) (c : Nat), e = .returned (.tuple #[.agg #[.int .i64 V.key, .int .i64 V.time, .int .i64 V.site, .int .i64 V.val, .int .i64 V.client, .int .i64 V.call, .slice a V.deps.length c], .bool b]) ∧ w'.ownsRow w.heap.size 34 3 (.slice a V.deps.length c) V.deps.length (dpsC V.deps) ∧ Below w.heap.size w w'
theorem gives_as {r : Option Vp} {V : Vp} {b : Bool} {P : Program} {f : FuncId} {args : Array Value} {w : World} (h : Calls P f args w (GivesO r w)) (hr : r.getD zeroV = V ∧ r.isSome = b) : Calls P f args w (GivesVB V b w) := by
  obtain ⟨rfl, rfl⟩ := hr; exact h
theorem deps_size {l : List Mv} {r : Option Vp} {V : Vp} (hs : sizeM l ≤ 1048576) (h : ∀ v, r = some v → v ∈ vs l) (hr : r.getD zeroV = V) : V.deps.length ≤ 1048576 := by
  cases r with
  | none => subst hr; simp [zeroV]
  | some v =>
    obtain rfl : v = V := hr
    obtain ⟨m, hm, rfl⟩ := List.mem_map.1 (h v rfl)
    have := sumD_mem l m hm
    unfold sizeM at hs; omega
set_option maxRecDepth 100000 in
set_option maxHeartbeats 8000000 in
theorem walk (a0 : Option Addr) (k0 : Nat) (z0 : List Mv) (n1 : Int) (w : World) (w0 : Vers w a0 k0 z0) (w1 : I64 n1) :
    Calls Try.prog 10 #[.slice a0 z0.length k0, .int .i64 n1] w fun e w' => e = .returned (.bool true) ∧ Below w.heap.size w w' := by
  have hv0 := w0
  clear w0
  go_enter Try.func10, Try.ntmps10
  go_wp2_with fail
  refine (szVerS_laws z0 1048576 a0 k0 _ hv0 (by omega) (by omega)).mono ?_
  rintro e w1 ⟨rfl, hb1⟩
  have G0 := hb1
  have ls1 := hb1.size
  by_cases hbig : (1048576 : Int) < (sizeM z0 : Int)
  · have hz : szR 1048576 (sizeM z0) = -1 := by rw [szR, if_pos hbig]
    go_wp2
    go_ret
    exact ⟨rfl, G0⟩
  · have hz : szR 1048576 (sizeM z0) = 1048576 - (sizeM z0 : Int) := by rw [szR, if_neg hbig]
    have hge : (0 : Int) ≤ szR 1048576 (sizeM z0) := by omega
    have hle : szR 1048576 (sizeM z0) ≤ 1048576 := by omega
    have hfew := few_of (l := z0) (by omega)
    have hsz : sizeM z0 ≤ 1048576 := by omega
    clear hz
    obtain ⟨V, hV⟩ : ∃ V, (topV (vs z0) n1).getD zeroV = V := ⟨_, rfl⟩
    obtain ⟨b, hb⟩ : ∃ b, (topV (vs z0) n1).isSome = b := ⟨_, rfl⟩
    have hVd := deps_size hsz (fun v h => by unfold topV at h; split at h; · exact (topF_some h).1
                                             · cases h) hV
    have hC : ∀ m : List Mv, vs m = vs z0 → (topV (vs m) n1).getD zeroV = V ∧ (topV (vs m) n1).isSome = b := fun m h => by rw [h]; exact ⟨hV, hb⟩
    have hbb : (b != b) = false := by cases b <;> rfl
    clear hV hb
    go_wp2_with fail
    have sz2 := G0.size
    refine (toVerS_laws z0 a0 k0 _ (hv0.below G0) hfew).mono ?_
    rintro e w2 ⟨v2, ms2, rfl, hvm2, ownv2, hb2⟩
    obtain ⟨p2, c2, rfl, vv2⟩ := ownv2.open_
    have few2 := few_vs hvm2 hfew
    have HV2 := Lib.hid hvm2
    clear hvm2
    have G0 := below_after G0 hb2
    have firstv2 := ownv2
    have ls2 := hb2.size
    have hcn2 := cnt_vs HV2.out hsz
    go_wp2_with fail
    have sz4 := G0.size
    refine (gives_as (ChainTop_spec ms2 n1 p2 c2 _ ownv2.vers few2) (hC ms2 HV2.out)).mono ?_
    rintro e w4 ⟨p4, c4, rfl, own4, hb4⟩
    have G0 := below_after G0 hb4
    have ownv2 := ownv2.below hb4
    have first4 := own4
    have ls4 := hb4.size
    have BW := Blk.new w4 #[.int .i64 V.key, .int .i64 V.time, .int .i64 V.site, .int .i64 V.val, .int .i64 V.client, .int .i64 V.call, .slice p4 V.deps.length c4] 61
    have hbBW := below_box w4 (.cells #[.int .i64 V.key, .int .i64 V.time, .int .i64 V.site, .int .i64 V.val, .int .i64 V.client, .int .i64 V.call, .slice p4 V.deps.length c4] 61)
    have own4 := own_below own4 hbBW
    have G0 := below_after G0 hbBW
    have ownv2 := ownv2.below hbBW
    have ltBW := BW.lt
    have lsBW := hbBW.size
    obtain ⟨BW0, BW1, BW2, BW3, BW4, BW5, BW6, BWf, BWl⟩ := BW.seven
    go_wp2_with fail
    have sz5 := G0.size
    refine (toVerS_laws z0 a0 k0 _ (hv0.below G0) hfew).mono ?_
    rintro e w5 ⟨v5, ms5, rfl, hvm5, ownv5, hb5⟩
    obtain ⟨p5, c5, rfl, vv5⟩ := ownv5.open_
    have few5 := few_vs hvm5 hfew
    have HV5 := Lib.hid hvm5
    clear hvm5
    have own4 := own_below own4 hb5
    have BW := BW.below hb5 BW.lt
    have G0 := below_after G0 hb5
    have firstv5 := ownv5
    have ls5 := hb5.size
    have hcn5 := cnt_vs HV5.out hsz
    obtain ⟨BW0, BW1, BW2, BW3, BW4, BW5, BW6, BWf, BWl⟩ := BW.seven
    go_wp2_with fail
    have sz8 := G0.size
    refine (gives_as (ChainTop_impl ms5 n1 p5 c5 _ ownv5.vers few5) (hC ms5 HV5.out)).mono ?_
    rintro e w8 ⟨p8, c8, rfl, own8, hb8⟩
    have own4 := own_below own4 hb8
    have BW := BW.below hb8 BW.lt
    have G0 := below_after G0 hb8
    have ownv5 := ownv5.below hb8
    have first8 := own8
    have ls8 := hb8.size
    have BG := Blk.new w8 #[.int .i64 V.key, .int .i64 V.time, .int .i64 V.site, .int .i64 V.val, .int .i64 V.client, .int .i64 V.call, .slice p8 V.deps.length c8] 61
    have hbBG := below_box w8 (.cells #[.int .i64 V.key, .int .i64 V.time, .int .i64 V.site, .int .i64 V.val, .int .i64 V.client, .int .i64 V.call, .slice p8 V.deps.length c8] 61)
    have BW := BW.alloc (.cells #[.int .i64 V.key, .int .i64 V.time, .int .i64 V.site, .int .i64 V.val, .int .i64 V.client, .int .i64 V.call, .slice p8 V.deps.length c8] 61)
    have own4 := own_below own4 hbBG
    have own8 := own_below own8 hbBG
    have G0 := below_after G0 hbBG
    have ownv5 := ownv5.below hbBG
    have ltBG := BG.lt
    have lsBG := hbBG.size
    obtain ⟨BW0, BW1, BW2, BW3, BW4, BW5, BW6, BWf, BWl⟩ := BW.seven
    obtain ⟨BG0, BG1, BG2, BG3, BG4, BG5, BG6, BGf, BGl⟩ := BG.seven
    go_wp2_with fail
    refine (eqVer_same V p8 p4 c8 c4 _ (Reads.own own8) (Reads.own own4)).mono ?_
    rintro e w9 ⟨rfl, hb9⟩
    have own4 := own_below own4 hb9
    have own8 := own_below own8 hb9
    have BW := BW.below hb9 BW.lt
    have BG := BG.below hb9 BG.lt
    have G0 := below_after G0 hb9
    have ownv5 := ownv5.below hb9
    have ls9 := hb9.size
    obtain ⟨BW0, BW1, BW2, BW3, BW4, BW5, BW6, BWf, BWl⟩ := BW.seven
    obtain ⟨BG0, BG1, BG2, BG3, BG4, BG5, BG6, BGf, BGl⟩ := BG.seven
    go_wp2_with fail
    have sz10 := G0.size
    refine (toVerS_laws z0 a0 k0 _ (hv0.below G0) hfew).mono ?_
    rintro e w10 ⟨v10, ms10, rfl, hvm10, ownv10, hb10⟩
    obtain ⟨p10, c10, rfl, vv10⟩ := ownv10.open_
    have few10 := few_vs hvm10 hfew
    have HV10 := Lib.hid hvm10
    clear hvm10
    have own4 := own_below own4 hb10
    have own8 := own_below own8 hb10
    have BW := BW.below hb10 BW.lt
    have BG := BG.below hb10 BG.lt
    have G0 := below_after G0 hb10
    have ownv5 := ownv5.below hb10
    have firstv10 := ownv10
    have ls10 := hb10.size
    have hcn10 := cnt_vs HV10.out hsz
    obtain ⟨BW0, BW1, BW2, BW3, BW4, BW5, BW6, BWf, BWl⟩ := BW.seven
    obtain ⟨BG0, BG1, BG2, BG3, BG4, BG5, BG6, BGf, BGl⟩ := BG.seven
    go_wp2_with fail
    refine (eqVerS_same ms5 ms10 p5 p10 c5 c10 _ ownv5.vers ownv10.vers (by rw [HV5.out, HV10.out])).mono ?_
    rintro e w11 ⟨rfl, hb11⟩
    have own4 := own_below own4 hb11
    have own8 := own_below own8 hb11
    have BW := BW.below hb11 BW.lt
    have BG := BG.below hb11 BG.lt
    have G0 := below_after G0 hb11
    have ownv5 := ownv5.below hb11
    have ownv10 := ownv10.below hb11
    have ls11 := hb11.size
    have hm0 := cntM_nonneg ms5
    obtain ⟨BW0, BW1, BW2, BW3, BW4, BW5, BW6, BWf, BWl⟩ := BW.seven
    obtain ⟨BG0, BG1, BG2, BG3, BG4, BG5, BG6, BGf, BGl⟩ := BG.seven
    go_wp2_with fail
    refine (markVerS_laws ms5 1 p5 c5 _ _ ownv5 (by omega) (by omega) few5).mono ?_
    rintro e w12 ⟨rfl, mk12, hB12⟩
    have own4 := own_but own4 hB12 fun b e h2 => by have h3 := first4.lt b e; have h4 := firstv5.blks b h2; omega
    have own8 := own_but own8 hB12 fun b e h2 => by have h3 := first8.lt b e; have h4 := firstv5.blks b h2; omega
    have BW := BW.but hB12 fun h2 => by have h3 := BW.lt; have h4 := firstv5.blks _ h2; omega
    have BG := BG.but hB12 fun h2 => by have h3 := BG.lt; have h4 := firstv5.blks _ h2; omega
    have G0 := hB12.below G0 fun i h2 => by have h4 := firstv5.blks i h2; omega
    have ls12 := hB12.size
    obtain ⟨BW0, BW1, BW2, BW3, BW4, BW5, BW6, BWf, BWl⟩ := BW.seven
    obtain ⟨BG0, BG1, BG2, BG3, BG4, BG5, BG6, BGf, BGl⟩ := BG.seven
    go_wp2_with fail
    refine (eqVer_same V p8 p4 c8 c4 _ (Reads.own own8) (Reads.own own4)).mono ?_
    rintro e w13 ⟨rfl, hb13⟩
    have own4 := own_below own4 hb13
    have own8 := own_below own8 hb13
    have BW := BW.below hb13 BW.lt
    have BG := BG.below hb13 BG.lt
    have G0 := below_after G0 hb13
    have ls13 := hb13.size
    obtain ⟨BW0, BW1, BW2, BW3, BW4, BW5, BW6, BWf, BWl⟩ := BW.seven
    obtain ⟨BG0, BG1, BG2, BG3, BG4, BG5, BG6, BGf, BGl⟩ := BG.seven
    go_wp2_with fail
    refine (markVer_laws V 1 p8 c8 _ _ _ own8 (by omega) (by omega) (by omega)).mono ?_
    rintro e w14 ⟨rfl, mk14, hg14⟩
    have own4 := own4.kept hg14 (by first | exact own_apart first4 first8 (by omega) | exact own_apart' first8 first4 (by omega))
    have BW := BW.row hg14 (fun e => by have h3 := first8.lt _ e; omega)
    have BG := BG.row hg14 (fun e => by have h3 := first8.lt _ e; omega)
    have G0 := below_mark G0 own8 hg14 (by omega)
    have ls14 := hg14.size
    have own8 := mk14
    obtain ⟨BW0, BW1, BW2, BW3, BW4, BW5, BW6, BWf, BWl⟩ := BW.seven
    obtain ⟨BG0, BG1, BG2, BG3, BG4, BG5, BG6, BGf, BGl⟩ := BG.seven
    go_wp2_with fail
    refine (heldVer_laws V 1 p8 c8 _ (Reads.own own8) (by omega) (by omega) (by omega)).mono ?_
    rintro e w15 ⟨rfl, hb15⟩
    have own4 := own_below own4 hb15
    have own8 := own_below own8 hb15
    have BW := BW.below hb15 BW.lt
    have BG := BG.below hb15 BG.lt
    have G0 := below_after G0 hb15
    have ls15 := hb15.size
    obtain ⟨BW0, BW1, BW2, BW3, BW4, BW5, BW6, BWf, BWl⟩ := BW.seven
    obtain ⟨BG0, BG1, BG2, BG3, BG4, BG5, BG6, BGf, BGl⟩ := BG.seven
    go_wp2_with fail
    have sz17 := G0.size
    refine (toVerS_laws z0 a0 k0 _ (hv0.below G0) hfew).mono ?_
    rintro e w17 ⟨v17, ms17, rfl, hvm17, ownv17, hb17⟩
    obtain ⟨p17, c17, rfl, vv17⟩ := ownv17.open_
    have few17 := few_vs hvm17 hfew
    have HV17 := Lib.hid hvm17
    clear hvm17
    have own4 := own_below own4 hb17
    have own8 := own_below own8 hb17
    have BW := BW.below hb17 BW.lt
    have BG := BG.below hb17 BG.lt
    have G0 := below_after G0 hb17
    have firstv17 := ownv17
    have ls17 := hb17.size
    have hcn17 := cnt_vs HV17.out hsz
    obtain ⟨BW0, BW1, BW2, BW3, BW4, BW5, BW6, BWf, BWl⟩ := BW.seven
    obtain ⟨BG0, BG1, BG2, BG3, BG4, BG5, BG6, BGf, BGl⟩ := BG.seven
    go_wp2_with fail
    have sz19 := G0.size
    refine (gives_as (ChainTop_impl ms17 n1 p17 c17 _ ownv17.vers few17) (hC ms17 HV17.out)).mono ?_
    rintro e w19 ⟨p19, c19, rfl, own19, hb19⟩
    have own4 := own_below own4 hb19
    have own8 := own_below own8 hb19
    have BW := BW.below hb19 BW.lt
    have BG := BG.below hb19 BG.lt
    have G0 := below_after G0 hb19
    have ownv17 := ownv17.below hb19
    have first19 := own19
    have ls19 := hb19.size
    have BH := Blk.new w19 #[.int .i64 V.key, .int .i64 V.time, .int .i64 V.site, .int .i64 V.val, .int .i64 V.client, .int .i64 V.call, .slice p19 V.deps.length c19] 61
    have hbBH := below_box w19 (.cells #[.int .i64 V.key, .int .i64 V.time, .int .i64 V.site, .int .i64 V.val, .int .i64 V.client, .int .i64 V.call, .slice p19 V.deps.length c19] 61)
    have BW := BW.alloc (.cells #[.int .i64 V.key, .int .i64 V.time, .int .i64 V.site, .int .i64 V.val, .int .i64 V.client, .int .i64 V.call, .slice p19 V.deps.length c19] 61)
    have BG := BG.alloc (.cells #[.int .i64 V.key, .int .i64 V.time, .int .i64 V.site, .int .i64 V.val, .int .i64 V.client, .int .i64 V.call, .slice p19 V.deps.length c19] 61)
    have own4 := own_below own4 hbBH
    have own8 := own_below own8 hbBH
    have own19 := own_below own19 hbBH
    have G0 := below_after G0 hbBH
    have ownv17 := ownv17.below hbBH
    have ltBH := BH.lt
    have lsBH := hbBH.size
    obtain ⟨BW0, BW1, BW2, BW3, BW4, BW5, BW6, BWf, BWl⟩ := BW.seven
    obtain ⟨BG0, BG1, BG2, BG3, BG4, BG5, BG6, BGf, BGl⟩ := BG.seven
    obtain ⟨BH0, BH1, BH2, BH3, BH4, BH5, BH6, BHf, BHl⟩ := BH.seven
    go_wp2_with fail
    refine (eqVer_same V p19 p4 c19 c4 _ (Reads.own own19) (Reads.own own4)).mono ?_
    rintro e w20 ⟨rfl, hb20⟩
    have own4 := own_below own4 hb20
    have own8 := own_below own8 hb20
    have own19 := own_below own19 hb20
    have BW := BW.below hb20 BW.lt
    have BG := BG.below hb20 BG.lt
    have BH := BH.below hb20 BH.lt
    have G0 := below_after G0 hb20
    have ls20 := hb20.size
    obtain ⟨BW0, BW1, BW2, BW3, BW4, BW5, BW6, BWf, BWl⟩ := BW.seven
    obtain ⟨BG0, BG1, BG2, BG3, BG4, BG5, BG6, BGf, BGl⟩ := BG.seven
    obtain ⟨BH0, BH1, BH2, BH3, BH4, BH5, BH6, BHf, BHl⟩ := BH.seven
    go_wp2_with fail
    refine (heldVer_laws V 1 p8 c8 _ (Reads.own own8) (by omega) (by omega) (by omega)).mono ?_
    rintro e w21 ⟨rfl, hb21⟩
    have own4 := own_below own4 hb21
    have own8 := own_below own8 hb21
    have own19 := own_below own19 hb21
    have BW := BW.below hb21 BW.lt
    have BG := BG.below hb21 BG.lt
    have BH := BH.below hb21 BH.lt
    have G0 := below_after G0 hb21
    have ls21 := hb21.size
    obtain ⟨BW0, BW1, BW2, BW3, BW4, BW5, BW6, BWf, BWl⟩ := BW.seven
    obtain ⟨BG0, BG1, BG2, BG3, BG4, BG5, BG6, BGf, BGl⟩ := BG.seven
    obtain ⟨BH0, BH1, BH2, BH3, BH4, BH5, BH6, BHf, BHl⟩ := BH.seven
    go_wp2
    go_ret
    exact ⟨rfl, G0⟩

set_option maxRecDepth 100000 in
theorem lifted (os : Os) (started : os.Started) (H : Type) (enc : TypeId × Value → H) :
    ReturnsInHanded {} Try.checked os 10 .any (Rows.fnExactChainTopSpec.pre6 enc Try.prog Try.f10 Rows.fnExactChainTopRow.domain false) (Rows.fnExactChainTopSpec.post enc Try.prog Try.f10 false true false false) := by
  refine returnsInHanded_of_change (C := Try.checked) own started (by kernel_rfl) Try.func10
    (ChangeSpec.witness6 (enc := enc) (C := Try.checked) false ⟨#[], #[.slice none 0 0, .int .i64 0], []⟩ 8 (by kernel_rfl) (by kernel_rfl) (by kernel_rfl) (by kernel_rfl)) ?_
  intro W base args ds gs before hval0 hW hcnd _
  have hval : ∀ (j : Nat) t v, Try.f10.params[j]? = some t → args[j]? = some v → Value.okWide Try.prog W .any base t v := hval0
  have hW' := hW
  obtain ⟨p, q, hA0, hV, rfl, hfz, hnd⟩ := hW
  have hA : DataW.TrodAll enc Try.prog W 0 (fun _ => true) true Try.f10.params.toList args.toList ds p := hA0
  rw [Try.params10] at hA hval
  obtain ⟨v0, vs0, d0, ds0, p0, q0, hargs, rfl, rfl, h0, r0⟩ := trodAll_cons hA
  obtain ⟨v1, vs1, d1, ds1, p1, q1, rfl, rfl, rfl, h1, r1⟩ := trodAll_cons r0
  obtain ⟨rfl, rfl, rfl⟩ := trodAll_nil r1
  obtain rfl : args = #[v0, v1] := by cases args; simp_all
  obtain ⟨rfl, rfl⟩ := trodVars_none hV
  have lt0 : ∀ x ∈ p0, x.block < W.heap.size := by obtain ⟨m, hm⟩ := h0; exact DataW.trod_lt m _ _ _ hm
  obtain ⟨_, _, _, _, _, _, _, _, _, _, _, _, _, hV0⟩ := isVerL
  obtain ⟨a0, k0, z0, rfl, w0⟩ := vers_of Try.underlying51 hV0 (hval 0 51 v0 rfl rfl) h0
  have lt1 : ∀ x ∈ p1, x.block < W.heap.size := by obtain ⟨m, hm⟩ := h1; exact DataW.trod_lt m _ _ _ hm
  obtain ⟨n1, rfl, w1⟩ := int_of Try.underlying3 (hval 1 3 v1 rfl rfl) h1
  clear hA0 hval0
  refine (walk a0 k0 z0 n1 W w0 w1).mono fun e W' ⟨he, bel⟩ => ?_
  subst he
  exact ⟨_, rfl, _, _, _, [], _, [], hW', trodAll_mk1 (shut_bool Try.underlying4 _), (trodAll_cons_mk (Below.trod laidOut (by kernel_rfl) (of_decide_eq_true (by kernel_rfl)) h0 bel lt0) (trodAll_cons_mk (Below.trod laidOut (by kernel_rfl) (of_decide_eq_true (by kernel_rfl)) h1 bel lt1) trodAll_mk0)), rfl, bel.frame _, fun h => by cases h⟩

theorem over_row : Rows.fnExactChainTopRow.holds Try.pinned (OpenSpec.ofChange Rows.fnExactChainTopSpec) :=
  OpenClaim.holds_of_wide 10 Try.f10 rfl rfl rfl rfl rfl rfl rfl ⟨rfl, rfl, rfl, rfl, rfl⟩ rfl rfl rfl rfl rfl (by kernel_rfl) Try.func10 (by kernel_rfl)
    (of_decide_eq_true (by kernel_rfl)) (by unfold Func.isWrapper; first | (rw [if_pos (by decide +kernel)]; kernel_rfl) | (rw [if_neg (by decide +kernel)]; exact ⟨rfl, rfl⟩))
    (fun os started H enc _ => lifted os started H enc)

/-- The statement. -/
theorem proved : Rows.FnExactChainTopSaid := over_row
end Go.Proofs.Ytiigdbmfpibbdaa.fnExactChainTop
