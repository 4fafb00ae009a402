/- ChainAt is the reference's. Of every input that the given statement lets in. -/
import Derived.Test.YthciikogogkfcaaOpenV
import Derived.Test.YthciikogogkfcaaChainL
import Derived.Test.YthciikogogkfcaaChainW3
import Derived.Test.YthciikogogkfcaaChainW5
import Derived.Test.YthciikogogkfcaaMarkV
import Derived.Deep.RegionHeld3
import Derived.Deep.CutRange
namespace Go.Proofs.Ythciikogogkfcaa.fnExactChainAt
open Go.ChangeShapes Go.WideShapes Go.ChangeAt Go.RowKit
set_option linter.unusedVariables false
theorem sum_filter (l : List Vp) (p : Vp → Bool) : ((l.filter p).map fun v => v.deps.length).sum ≤ (l.map fun v => v.deps.length).sum := by
  induction l with
  | nil => simp
  | cons v l ih => rw [List.filter_cons]; split <;> simp <;> omega
theorem sumD_as (l : List Mv) : sumD l = ((vs l).map fun v => v.deps.length).sum := by simp [sumD, vs, Function.comp_def]
theorem cnt_size {l : List Mv} (h : sizeM l ≤ 1048576) : cntM l ≤ 6291456 := by unfold sizeM at h; unfold cntM; omega
theorem cnt_vs {l m : List Mv} (h : vs m = vs l) (hs : sizeM l ≤ 1048576) : cntM m ≤ 6291456 := by
  refine cnt_size ?_
  unfold sizeM at hs ⊢
  rw [sumD_vs h, ← vs_len m, h, vs_len]; exact hs
theorem filt_size {l m : List Mv} {p : Vp → Bool} (h : vs m = (vs l).filter p) (hs : sizeM l ≤ 1048576) : sizeM m ≤ 1048576 := by
  have h1 : sumD m ≤ sumD l := by rw [sumD_as, sumD_as, h]; exact sum_filter _ _
  have h2 : m.length ≤ l.length := by rw [← vs_len m, h, ← vs_len l]; exact List.length_filter_le _ _
  unfold sizeM at hs ⊢; omega
theorem nil_size {m : List Mv} (h : vs m = []) : sizeM m ≤ 1048576 := by
  have : m = [] := by cases m with
    | nil => rfl
    | cons a l => simp [vs] at h
  subst this; simp [sizeM, sumD]
theorem slot_in {l m : List Mv} {s : Int} (h : vs m = slotIn (vs l) s) (hs : sizeM l ≤ 1048576) : Few m ∧ cntM m ≤ 6291456 := by
  have : sizeM m ≤ 1048576 := by
    unfold slotIn at h; split at h
    · exact filt_size h hs
    · exact nil_size h
  exact ⟨few_of this, cnt_size this⟩
theorem slot_out {l m : List Mv} {s : Int} (h : vs m = slotOut (vs l) s) (hs : sizeM l ≤ 1048576) : Few m ∧ cntM m ≤ 6291456 := by
  have : sizeM m ≤ 1048576 := by
    unfold slotOut at h; split at h
    · exact filt_size h hs
    · exact nil_size h
  exact ⟨few_of this, cnt_size this⟩
theorem two_but {S : Nat → Prop} {N : Nat} {w w' : World} {v u : Value} {A B : List Mv} (h : OwnTwo N w v u A B) (hb : But S w w') (h1 : ∀ i, BlksOf v A i → ¬ S i) (h2 : ∀ i, BlksOf u B i → ¬ S i) : OwnTwo N w' v u A B := by
  have x := h.fst.but hb h1
  have y := h.snd.but hb h2
  refine ⟨x.own, y.own, h.ap, fun m hm => ?_, h.inn.apart⟩
  rcases List.mem_append.1 hm with hm | hm
  · exact x.inn.row m hm
  · exact y.inn.row m hm
theorem versM {N n c : Nat} {w : World} {a : Option Addr} {l : List Mv} (h : OwnVers N w (.slice a n c) l) (hn : l.length = n) : Vers w a c l := by subst hn; exact h.vers
theorem _root_.Go.Proofs.Ythciikogogkfcaa.Blk.set7 {w : World} {b g : Nat} {cs cs' : Array Value} {T T' : TypeId} (h : Blk w b cs T) (hz : Blk w g cs' T') (hn : b ≠ g) (u0 u1 u2 u3 u4 u5 u6 : Value) :
    Blk (((((((w.setCell ⟨g, 0, none⟩ u0).setCell ⟨g, 1, none⟩ u1).setCell ⟨g, 2, none⟩ u2).setCell ⟨g, 3, none⟩ u3).setCell ⟨g, 4, none⟩ u4).setCell ⟨g, 5, none⟩ u5).setCell ⟨g, 6, none⟩ u6) b cs T := ((((((h.setb hn u0).setb hn u1).setb hn u2).setb hn u3).setb hn u4).setb hn u5).setb hn u6
theorem own_ne_lt {w : World} {N k n b : Nat} {T : TypeId} {v : Value} {xs : List Value} (h : w.ownsRow N T k v n xs) (hb : w.heap.size ≤ b) : v.ownBlock ≠ some b := own_ne h hb
theorem OwnVers.set' {N g o : Nat} {w : World} {v : Value} {l : List Mv} (h : OwnVers N w v l) (hg : ¬ BlksOf v l g) (u : Value) : OwnVers N (w.setCell ⟨g, o, none⟩ u) v l :=
  ⟨own_set h.own (fun e => hg (.inl e)) u, h.inn.set' (fun m hm e => hg (.inr ⟨m, hm, e⟩)) u⟩
/-- A version and a bool come back, both known. -/
def GivesVB (V : Vp) (b : Bool) (w : World) (e : Ending) (w' : World) : Prop := ∃ (a : Option Addr) (c : Nat), e = .returned (.tuple #[.agg #[.int .i64 V.key, .int .i64 V.time, .int .i64 V.site, .int .i64 V.val, .int .i64 V.client, .int .i64 V.call, .slice a V.deps.length c], .bool b]) ∧ w'.ownsRow w.heap.size 32 3 (.slice a V.deps.length c) V.deps.length (dpsC V.deps) ∧ Below w.heap.size w w'
theorem gives_as {r : Option Vp} {V : Vp} {b : Bool} {P : Program} {f : FuncId} {args : Array Value} {w : World} (h : Calls P f args w (GivesO r w)) (hr : r.getD zeroV = V ∧ r.isSome = b) : Calls P f args w (GivesVB V b w) := by
  obtain ⟨rfl, rfl⟩ := hr; exact h
theorem deps_size {l : List Mv} {r : Option Vp} {V : Vp} (hs : sizeM l ≤ 1048576) (h : ∀ v, r = some v → v ∈ vs l) (hr : r.getD zeroV = V) : V.deps.length ≤ 1048576 := by
  cases r with
  | none => subst hr; simp [zeroV]
  | some v =>
    obtain rfl : v = V := hr
    obtain ⟨m, hm, rfl⟩ := List.mem_map.1 (h v rfl)
    have := sumD_mem l m hm
    unfold sizeM at hs; omega
set_option maxRecDepth 100000 in
set_option maxHeartbeats 8000000 in
theorem walk (a0 : Option Addr) (k0 : Nat) (z0 : List Mv) (n1 : Int) (n2 m2 : Int) (w : World) (w0 : Vers w a0 k0 z0) (w1 : I64 n1) (w2 : I64 n2) (u2 : I64 m2) :
    Calls Try.prog 4 #[.slice a0 z0.length k0, .int .i64 n1, .agg #[.int .i64 n2, .int .i64 m2]] w fun e w' => e = .returned (.bool true) ∧ Below w.heap.size w w' := by
  have BS := Blk.new w #[.int .i64 n2, .int .i64 m2] 35
  have ltBS := BS.lt
  have G0 := below_box w (.cells #[.int .i64 n2, .int .i64 m2] 35)
  have lsBS := G0.size
  have hv0 := w0
  clear w0
  go_enter Try.func4, Try.ntmps4
  go_wp2_with fail
  refine (szVerS_laws z0 1048576 a0 k0 _ (hv0.below G0) (by omega) (by omega)).mono ?_
  rintro e w1 ⟨rfl, hb1⟩
  have BS := BS.below hb1 BS.lt
  have G0 := below_after G0 hb1
  have ls1 := hb1.size
  by_cases hbig : (1048576 : Int) < (sizeM z0 : Int)
  · have hz : szR 1048576 (sizeM z0) = -1 := by rw [szR, if_pos hbig]
    go_wp2
    go_ret
    exact ⟨rfl, G0⟩
  · have hz : szR 1048576 (sizeM z0) = 1048576 - (sizeM z0 : Int) := by rw [szR, if_neg hbig]
    have hge : (0 : Int) ≤ szR 1048576 (sizeM z0) := by omega
    have hle : szR 1048576 (sizeM z0) ≤ 1048576 := by omega
    have hfew := few_of (l := z0) (by omega)
    have hsz : sizeM z0 ≤ 1048576 := by omega
    clear hz
    obtain ⟨V, hV⟩ : ∃ V, (atV (vs z0) (n1, n2, m2)).getD zeroV = V := ⟨_, rfl⟩
    obtain ⟨b, hb⟩ : ∃ b, (atV (vs z0) (n1, n2, m2)).isSome = b := ⟨_, rfl⟩
    have hVd := deps_size hsz (fun v h => by unfold atV at h; split at h; · exact (getV_some h).1
                                             · cases h) hV
    have hC : ∀ m : List Mv, vs m = vs z0 → (atV (vs m) (n1, n2, m2)).getD zeroV = V ∧ (atV (vs m) (n1, n2, m2)).isSome = b := fun m h => by rw [h]; exact ⟨hV, hb⟩
    have hAs : ∀ (m : List Mv) (p : Option Addr) (cc : Nat) (W : World), vs m = vs z0 → Vers W p cc m → Calls Try.prog 15 #[.slice p m.length cc, .int .i64 n1, .agg #[.int .i64 n2, .int .i64 m2]] W (GivesVB V b W) := fun m p cc W hm hv => gives_as (ChainAt_spec m (n1, n2, m2) p cc W hv (few_vs hm hfew)) (hC m hm)
    have hAi : ∀ (m : List Mv) (p : Option Addr) (cc : Nat) (W : World), vs m = vs z0 → Vers W p cc m → Calls Try.prog 18 #[.slice p m.length cc, .int .i64 n1, .agg #[.int .i64 n2, .int .i64 m2]] W (GivesVB V b W) := fun m p cc W hm hv => gives_as (ChainAt_impl m (n1, n2, m2) p cc W hv (few_vs hm hfew)) (hC m hm)
    have hbb : (b != b) = false := by cases b <;> rfl
    clear hV hb
    go_upto_region 5 with fail
    go_cut [8, 9] from 23 to 31 (fun s8 s9 wx => ∃ (B4 : Nat) (p4 : Option Addr) (c4 : Nat), s8 = .pointer (some ⟨B4, 0, none⟩) ∧ s9 = .bool b ∧ Blk wx B4 #[.int .i64 V.key, .int .i64 V.time, .int .i64 V.site, .int .i64 V.val, .int .i64 V.client, .int .i64 V.call, .slice p4 V.deps.length c4] 27 ∧ wx.ownsRow w1.heap.size 32 3 (.slice p4 V.deps.length c4) V.deps.length (dpsC V.deps) ∧ Below w1.heap.size w1 wx ∧ w1.heap.size ≤ B4 ∧ (Value.slice p4 V.deps.length c4).ownBlock ≠ some B4)
    case first =>
      have G0p := G0
      have BSp := BS
      have GXp := Below.refl w1.heap.size w1
      have hbd := (Below.refl w1.heap.size w1).drew
      have BS := BS.below hbd BS.lt
      have G0 := below_after G0 hbd
      have GX := hbd
      obtain ⟨BS0, BS1, BSf, BSl⟩ := BS.two
      go_region_held3 (fun W => W.cell? ⟨w.heap.size, 0, none⟩ = some (.int .i64 n2) ∧ W.cell? ⟨w.heap.size, 1, none⟩ = some (.int .i64 m2)) (first | (with_reducible exact ⟨BS.two.1, BS.two.2.1⟩) | (with_reducible exact ⟨(BS.alloc _).two.1, (BS.alloc _).two.2.1⟩) | (with_reducible exact ⟨(Blk.drew (BSp.alloc _)).two.1, (Blk.drew (BSp.alloc _)).two.2.1⟩) | (with_reducible exact ⟨(BS.set7 BZ hne_ _ _ _ _ _ _ _).two.1, (BS.set7 BZ hne_ _ _ _ _ _ _ _).two.2.1⟩)) (first | (go_at_call 16; first | (have BZ := BZ; have lz_ := BZ.lt; (with_reducible refine (toVerS_laws z0 a0 k0 _ (hv0.below G0) hfew).mono ?_); rintro e w2 ⟨v2, ms2, rfl, hvm2, ownv2, hb⟩; have BS := BS.below hb BS.lt; have G0 := below_after G0 hb; have GX := below_after GX hb; obtain ⟨p2, c2, rfl, vv2⟩ := ownv2.open_; have BZ := BZ.below hb BZ.lt; obtain ⟨z0, z1, z2, z3, z4, z5, z6, zf, zl⟩ := BZ.seven) | ((with_reducible refine (toVerS_laws z0 a0 k0 _ (hv0.below G0) hfew).mono ?_); rintro e w2 ⟨v2, ms2, rfl, hvm2, ownv2, hb⟩; have BS := BS.below hb BS.lt; have G0 := below_after G0 hb; have GX := below_after GX hb; obtain ⟨p2, c2, rfl, vv2⟩ := ownv2.open_) | (have BZ := Blk.drew (Blk.new w1 #[.int .i64 0, .int .i64 0, .int .i64 0, .int .i64 0, .int .i64 0, .int .i64 0, .slice none 0 0] 27); have lbz_ := BSp.lt; have hne_ : w.heap.size ≠ w1.heap.size := (by omega); have hzl_ := Nat.le_refl w1.heap.size; have hz := (below_box w1 (.cells #[.int .i64 0, .int .i64 0, .int .i64 0, .int .i64 0, .int .i64 0, .int .i64 0, .slice none 0 0] 27)).drew; have BS := BSp.below hz BSp.lt; have G0 := below_after G0p hz; have GX := below_after GXp hz; have lz_ := BZ.lt; (with_reducible refine (toVerS_laws z0 a0 k0 _ (hv0.below G0) hfew).mono ?_); rintro e w2 ⟨v2, ms2, rfl, hvm2, ownv2, hb⟩; have BS := BS.below hb BS.lt; have G0 := below_after G0 hb; have GX := below_after GX hb; obtain ⟨p2, c2, rfl, vv2⟩ := ownv2.open_; have BZ := BZ.below hb BZ.lt; obtain ⟨z0, z1, z2, z3, z4, z5, z6, zf, zl⟩ := BZ.seven)) | (go_at_call 17; first | (have BZ := BZ; have lz_ := BZ.lt; (with_reducible refine (toStamp_laws _ _ _).mono ?_); rintro e w3 ⟨rfl, hb⟩; have BS := BS.below hb BS.lt; have G0 := below_after G0 hb; have GX := below_after GX hb; have ownv2 := ownv2.below hb; have BZ := BZ.below hb BZ.lt; obtain ⟨z0, z1, z2, z3, z4, z5, z6, zf, zl⟩ := BZ.seven) | ((with_reducible refine (toStamp_laws _ _ _).mono ?_); rintro e w3 ⟨rfl, hb⟩; have BS := BS.below hb BS.lt; have G0 := below_after G0 hb; have GX := below_after GX hb; have ownv2 := ownv2.below hb) | (have BZ := Blk.new w2 #[.int .i64 0, .int .i64 0, .int .i64 0, .int .i64 0, .int .i64 0, .int .i64 0, .slice none 0 0] 27; have lbz_ := BS.lt; have hne_ : w.heap.size ≠ w2.heap.size := (by omega); have hzl_ : w1.heap.size ≤ w2.heap.size := GX.size; have hz := below_box w2 (.cells #[.int .i64 0, .int .i64 0, .int .i64 0, .int .i64 0, .int .i64 0, .int .i64 0, .slice none 0 0] 27); have BS := BS.below hz BS.lt; have G0 := below_after G0 hz; have GX := below_after GX hz; have ownv2 := ownv2.below hz; have lz_ := BZ.lt; (with_reducible refine (toStamp_laws _ _ _).mono ?_); rintro e w3 ⟨rfl, hb⟩; have BS := BS.below hb BS.lt; have G0 := below_after G0 hb; have GX := below_after GX hb; have ownv2 := ownv2.below hb; have BZ := BZ.below hb BZ.lt; obtain ⟨z0, z1, z2, z3, z4, z5, z6, zf, zl⟩ := BZ.seven)) | (go_at_call 15; first | (have BZ := BZ; have lz_ := BZ.lt; (with_reducible refine (hAs ms2 p2 c2 _ hvm2 ownv2.vers).mono ?_); have gx_ := GX.size; rintro e w4 ⟨p4, c4, rfl, own4, hb⟩; have BS := BS.below hb BS.lt; have G0 := below_after G0 hb; have GX := below_after GX hb; have ownv2 := ownv2.below hb; have of_ := own4; have own4 := own_base own4 (show w1.heap.size ≤ _ by simpa using gx_); have BZ := BZ.below hb BZ.lt; obtain ⟨z0, z1, z2, z3, z4, z5, z6, zf, zl⟩ := BZ.seven) | ((with_reducible refine (hAs ms2 p2 c2 _ hvm2 ownv2.vers).mono ?_); have gx_ := GX.size; rintro e w4 ⟨p4, c4, rfl, own4, hb⟩; have BS := BS.below hb BS.lt; have G0 := below_after G0 hb; have GX := below_after GX hb; have ownv2 := ownv2.below hb; have of_ := own4; have own4 := own_base own4 (show w1.heap.size ≤ _ by simpa using gx_)) | (have BZ := Blk.new w3 #[.int .i64 0, .int .i64 0, .int .i64 0, .int .i64 0, .int .i64 0, .int .i64 0, .slice none 0 0] 27; have lbz_ := BS.lt; have hne_ : w.heap.size ≠ w3.heap.size := (by omega); have hzl_ : w1.heap.size ≤ w3.heap.size := GX.size; have hz := below_box w3 (.cells #[.int .i64 0, .int .i64 0, .int .i64 0, .int .i64 0, .int .i64 0, .int .i64 0, .slice none 0 0] 27); have BS := BS.below hz BS.lt; have G0 := below_after G0 hz; have GX := below_after GX hz; have ownv2 := ownv2.below hz; have lz_ := BZ.lt; (with_reducible refine (hAs ms2 p2 c2 _ hvm2 ownv2.vers).mono ?_); have gx_ := GX.size; rintro e w4 ⟨p4, c4, rfl, own4, hb⟩; have BS := BS.below hb BS.lt; have G0 := below_after G0 hb; have GX := below_after GX hb; have ownv2 := ownv2.below hb; have of_ := own4; have own4 := own_base own4 (show w1.heap.size ≤ _ by simpa using gx_); have BZ := BZ.below hb BZ.lt; obtain ⟨z0, z1, z2, z3, z4, z5, z6, zf, zl⟩ := BZ.seven)))
      all_goals clear hvm2 ownv2 vv2
      all_goals have first4 := own4
      all_goals (first
        | (have hle := hzl_
           have hap := own_ne' of_ lz_
           have GX := (below_setb (below_setb (below_setb (below_setb (below_setb (below_setb (below_setb GX (o := 0) hzl_ (.int .i64 V.key)) (o := 1) hzl_ (.int .i64 V.time)) (o := 2) hzl_ (.int .i64 V.site)) (o := 3) hzl_ (.int .i64 V.val)) (o := 4) hzl_ (.int .i64 V.client)) (o := 5) hzl_ (.int .i64 V.call)) (o := 6) hzl_ (.slice p4 V.deps.length c4))
           have own4 := (own_set (own_set (own_set (own_set (own_set (own_set (own_set own4 hap (o := 0) (.int .i64 V.key)) hap (o := 1) (.int .i64 V.time)) hap (o := 2) (.int .i64 V.site)) hap (o := 3) (.int .i64 V.val)) hap (o := 4) (.int .i64 V.client)) hap (o := 5) (.int .i64 V.call)) hap (o := 6) (.slice p4 V.deps.length c4))
           have BW := (((((((BZ.put0 (.int .i64 V.key)).put1 (.int .i64 V.time)).put2 (.int .i64 V.site)).put3 (.int .i64 V.val)).put4 (.int .i64 V.client)).put5 (.int .i64 V.call)).put6 (.slice p4 V.deps.length c4))
           clear BZ
           go_wp2_with fail
           go_meet
           exact ⟨_, p4, c4, rfl, rfl, BW, own4, GX, hle, hap⟩)
        | (have BW := Blk.new w4 #[.int .i64 V.key, .int .i64 V.time, .int .i64 V.site, .int .i64 V.val, .int .i64 V.client, .int .i64 V.call, .slice p4 V.deps.length c4] 27
           have hz := below_box w4 (.cells #[.int .i64 V.key, .int .i64 V.time, .int .i64 V.site, .int .i64 V.val, .int .i64 V.client, .int .i64 V.call, .slice p4 V.deps.length c4] 27)
           have hap := own_ne first4 (Nat.le_refl _)
           have hle := GX.size
           have GX := below_after GX hz
           have own4 := own_below own4 hz
           go_wp2_with fail
           go_meet
           exact ⟨_, p4, c4, rfl, rfl, BW, own4, GX, hle, hap⟩))
    case rest =>
    obtain ⟨B4, p4, c4, rfl, rfl, BW_, own4, hb4, hle4, hap4⟩ := hcut
    have BS := BS.below hb4 BS.lt
    have G0 := below_after G0 hb4
    have BW := BW_
    have first4 := own4
    have ltBW := BW.lt
    have ls4 := hb4.size
    obtain ⟨BS0, BS1, BSf, BSl⟩ := BS.two
    obtain ⟨BW0, BW1, BW2, BW3, BW4, BW5, BW6, BWf, BWl⟩ := BW.seven
    go_wp2_with fail
    have sz5 := G0.size
    refine (toVerS_laws z0 a0 k0 _ (hv0.below G0) hfew).mono ?_
    rintro e w5 ⟨v5, ms5, rfl, hvm5, ownv5, hb5⟩
    obtain ⟨p5, c5, rfl, vv5⟩ := ownv5.open_
    have few5 := few_vs hvm5 hfew
    have HV5 := Lib.hid hvm5
    clear hvm5
    have own4 := own_below own4 hb5
    have BS := BS.below hb5 BS.lt
    have BW := BW.below hb5 BW.lt
    have G0 := below_after G0 hb5
    have firstv5 := ownv5
    have ls5 := hb5.size
    have hcn5 := cnt_vs HV5.out hsz
    obtain ⟨BS0, BS1, BSf, BSl⟩ := BS.two
    obtain ⟨BW0, BW1, BW2, BW3, BW4, BW5, BW6, BWf, BWl⟩ := BW.seven
    go_wp2_with fail
    refine (toStamp_laws _ _ _).mono ?_
    rintro e w6 ⟨rfl, hb6⟩
    have own4 := own_below own4 hb6
    have BS := BS.below hb6 BS.lt
    have BW := BW.below hb6 BW.lt
    have G0 := below_after G0 hb6
    have ownv5 := ownv5.below hb6
    have ls6 := hb6.size
    obtain ⟨BS0, BS1, BSf, BSl⟩ := BS.two
    obtain ⟨BW0, BW1, BW2, BW3, BW4, BW5, BW6, BWf, BWl⟩ := BW.seven
    go_wp2_with fail
    have sz8 := G0.size
    refine (gives_as (ChainAt_impl ms5 (n1, n2, m2) p5 c5 _ ownv5.vers few5) (hC ms5 HV5.out)).mono ?_
    rintro e w8 ⟨p8, c8, rfl, own8, hb8⟩
    have own4 := own_below own4 hb8
    have BS := BS.below hb8 BS.lt
    have BW := BW.below hb8 BW.lt
    have G0 := below_after G0 hb8
    have ownv5 := ownv5.below hb8
    have first8 := own8
    have ls8 := hb8.size
    have BG := Blk.new w8 #[.int .i64 V.key, .int .i64 V.time, .int .i64 V.site, .int .i64 V.val, .int .i64 V.client, .int .i64 V.call, .slice p8 V.deps.length c8] 27
    have hbBG := below_box w8 (.cells #[.int .i64 V.key, .int .i64 V.time, .int .i64 V.site, .int .i64 V.val, .int .i64 V.client, .int .i64 V.call, .slice p8 V.deps.length c8] 27)
    have BS := BS.alloc (.cells #[.int .i64 V.key, .int .i64 V.time, .int .i64 V.site, .int .i64 V.val, .int .i64 V.client, .int .i64 V.call, .slice p8 V.deps.length c8] 27)
    have BW := BW.alloc (.cells #[.int .i64 V.key, .int .i64 V.time, .int .i64 V.site, .int .i64 V.val, .int .i64 V.client, .int .i64 V.call, .slice p8 V.deps.length c8] 27)
    have own4 := own_below own4 hbBG
    have own8 := own_below own8 hbBG
    have G0 := below_after G0 hbBG
    have ownv5 := ownv5.below hbBG
    have ltBG := BG.lt
    have lsBG := hbBG.size
    obtain ⟨BS0, BS1, BSf, BSl⟩ := BS.two
    obtain ⟨BW0, BW1, BW2, BW3, BW4, BW5, BW6, BWf, BWl⟩ := BW.seven
    obtain ⟨BG0, BG1, BG2, BG3, BG4, BG5, BG6, BGf, BGl⟩ := BG.seven
    go_wp2_with fail
    refine (eqVer_same V p8 p4 c8 c4 _ (Reads.own own8) (Reads.own own4)).mono ?_
    rintro e w9 ⟨rfl, hb9⟩
    have own4 := own_below own4 hb9
    have own8 := own_below own8 hb9
    have BS := BS.below hb9 BS.lt
    have BW := BW.below hb9 BW.lt
    have BG := BG.below hb9 BG.lt
    have G0 := below_after G0 hb9
    have ownv5 := ownv5.below hb9
    have ls9 := hb9.size
    obtain ⟨BS0, BS1, BSf, BSl⟩ := BS.two
    obtain ⟨BW0, BW1, BW2, BW3, BW4, BW5, BW6, BWf, BWl⟩ := BW.seven
    obtain ⟨BG0, BG1, BG2, BG3, BG4, BG5, BG6, BGf, BGl⟩ := BG.seven
    go_wp2_with fail
    have sz10 := G0.size
    refine (toVerS_laws z0 a0 k0 _ (hv0.below G0) hfew).mono ?_
    rintro e w10 ⟨v10, ms10, rfl, hvm10, ownv10, hb10⟩
    obtain ⟨p10, c10, rfl, vv10⟩ := ownv10.open_
    have few10 := few_vs hvm10 hfew
    have HV10 := Lib.hid hvm10
    clear hvm10
    have own4 := own_below own4 hb10
    have own8 := own_below own8 hb10
    have BS := BS.below hb10 BS.lt
    have BW := BW.below hb10 BW.lt
    have BG := BG.below hb10 BG.lt
    have G0 := below_after G0 hb10
    have ownv5 := ownv5.below hb10
    have firstv10 := ownv10
    have ls10 := hb10.size
    have hcn10 := cnt_vs HV10.out hsz
    obtain ⟨BS0, BS1, BSf, BSl⟩ := BS.two
    obtain ⟨BW0, BW1, BW2, BW3, BW4, BW5, BW6, BWf, BWl⟩ := BW.seven
    obtain ⟨BG0, BG1, BG2, BG3, BG4, BG5, BG6, BGf, BGl⟩ := BG.seven
    go_wp2_with fail
    refine (eqVerS_same ms5 ms10 p5 p10 c5 c10 _ ownv5.vers ownv10.vers (by rw [HV5.out, HV10.out])).mono ?_
    rintro e w11 ⟨rfl, hb11⟩
    have own4 := own_below own4 hb11
    have own8 := own_below own8 hb11
    have BS := BS.below hb11 BS.lt
    have BW := BW.below hb11 BW.lt
    have BG := BG.below hb11 BG.lt
    have G0 := below_after G0 hb11
    have ownv5 := ownv5.below hb11
    have ownv10 := ownv10.below hb11
    have ls11 := hb11.size
    have hm0 := cntM_nonneg ms5
    obtain ⟨BS0, BS1, BSf, BSl⟩ := BS.two
    obtain ⟨BW0, BW1, BW2, BW3, BW4, BW5, BW6, BWf, BWl⟩ := BW.seven
    obtain ⟨BG0, BG1, BG2, BG3, BG4, BG5, BG6, BGf, BGl⟩ := BG.seven
    go_wp2_with fail
    refine (markVerS_laws ms5 1 p5 c5 _ _ ownv5 (by omega) (by omega) few5).mono ?_
    rintro e w12 ⟨rfl, mk12, hB12⟩
    have own4 := own_but own4 hB12 fun b e h2 => by have h3 := first4.lt b e; have h4 := firstv5.blks b h2; omega
    have own8 := own_but own8 hB12 fun b e h2 => by have h3 := first8.lt b e; have h4 := firstv5.blks b h2; omega
    have BS := BS.but hB12 fun h2 => by have h3 := BS.lt; have h4 := firstv5.blks _ h2; omega
    have BW := BW.but hB12 fun h2 => by have h3 := BW.lt; have h4 := firstv5.blks _ h2; omega
    have BG := BG.but hB12 fun h2 => by have h3 := BG.lt; have h4 := firstv5.blks _ h2; omega
    have G0 := hB12.below G0 fun i h2 => by have h4 := firstv5.blks i h2; omega
    have ls12 := hB12.size
    obtain ⟨BS0, BS1, BSf, BSl⟩ := BS.two
    obtain ⟨BW0, BW1, BW2, BW3, BW4, BW5, BW6, BWf, BWl⟩ := BW.seven
    obtain ⟨BG0, BG1, BG2, BG3, BG4, BG5, BG6, BGf, BGl⟩ := BG.seven
    go_wp2_with fail
    refine (eqVer_same V p8 p4 c8 c4 _ (Reads.own own8) (Reads.own own4)).mono ?_
    rintro e w13 ⟨rfl, hb13⟩
    have own4 := own_below own4 hb13
    have own8 := own_below own8 hb13
    have BS := BS.below hb13 BS.lt
    have BW := BW.below hb13 BW.lt
    have BG := BG.below hb13 BG.lt
    have G0 := below_after G0 hb13
    have ls13 := hb13.size
    obtain ⟨BS0, BS1, BSf, BSl⟩ := BS.two
    obtain ⟨BW0, BW1, BW2, BW3, BW4, BW5, BW6, BWf, BWl⟩ := BW.seven
    obtain ⟨BG0, BG1, BG2, BG3, BG4, BG5, BG6, BGf, BGl⟩ := BG.seven
    go_wp2_with fail
    refine (markVer_laws V 1 p8 c8 _ _ _ own8 (by omega) (by omega) (by omega)).mono ?_
    rintro e w14 ⟨rfl, mk14, hg14⟩
    have own4 := own4.kept hg14 (by first | exact own_apart first4 first8 (by omega) | exact own_apart' first8 first4 (by omega))
    have BS := BS.row hg14 (fun e => by have h3 := first8.lt _ e; omega)
    have BW := BW.row hg14 (fun e => by have h3 := first8.lt _ e; omega)
    have BG := BG.row hg14 (fun e => by have h3 := first8.lt _ e; omega)
    have G0 := below_mark G0 own8 hg14 (by omega)
    have ls14 := hg14.size
    have own8 := mk14
    obtain ⟨BS0, BS1, BSf, BSl⟩ := BS.two
    obtain ⟨BW0, BW1, BW2, BW3, BW4, BW5, BW6, BWf, BWl⟩ := BW.seven
    obtain ⟨BG0, BG1, BG2, BG3, BG4, BG5, BG6, BGf, BGl⟩ := BG.seven
    go_wp2_with fail
    refine (heldVer_laws V 1 p8 c8 _ (Reads.own own8) (by omega) (by omega) (by omega)).mono ?_
    rintro e w15 ⟨rfl, hb15⟩
    have own4 := own_below own4 hb15
    have own8 := own_below own8 hb15
    have BS := BS.below hb15 BS.lt
    have BW := BW.below hb15 BW.lt
    have BG := BG.below hb15 BG.lt
    have G0 := below_after G0 hb15
    have ls15 := hb15.size
    go_upto_region 24 with fail
    go_cut [16, 17] from 83 to 91 (fun s8 s9 wx => ∃ (B19 : Nat) (p19 : Option Addr) (c19 : Nat), s8 = .pointer (some ⟨B19, 0, none⟩) ∧ s9 = .bool b ∧ Blk wx B19 #[.int .i64 V.key, .int .i64 V.time, .int .i64 V.site, .int .i64 V.val, .int .i64 V.client, .int .i64 V.call, .slice p19 V.deps.length c19] 27 ∧ wx.ownsRow w15.heap.size 32 3 (.slice p19 V.deps.length c19) V.deps.length (dpsC V.deps) ∧ Below w15.heap.size w15 wx ∧ w15.heap.size ≤ B19 ∧ (Value.slice p19 V.deps.length c19).ownBlock ≠ some B19)
    case first =>
      have G0p := G0
      have BSp := BS
      have GXp := Below.refl w15.heap.size w15
      have hbd := (Below.refl w15.heap.size w15).drew
      have BS := BS.below hbd BS.lt
      have G0 := below_after G0 hbd
      have GX := hbd
      obtain ⟨BS0, BS1, BSf, BSl⟩ := BS.two
      go_region_held3 (fun W => W.cell? ⟨w.heap.size, 0, none⟩ = some (.int .i64 n2) ∧ W.cell? ⟨w.heap.size, 1, none⟩ = some (.int .i64 m2)) (first | (with_reducible exact ⟨BS.two.1, BS.two.2.1⟩) | (with_reducible exact ⟨(BS.alloc _).two.1, (BS.alloc _).two.2.1⟩) | (with_reducible exact ⟨(Blk.drew (BSp.alloc _)).two.1, (Blk.drew (BSp.alloc _)).two.2.1⟩) | (with_reducible exact ⟨(BS.set7 BZ hne_ _ _ _ _ _ _ _).two.1, (BS.set7 BZ hne_ _ _ _ _ _ _ _).two.2.1⟩)) (first | (go_at_call 16; first | (have BZ := BZ; have lz_ := BZ.lt; (with_reducible refine (toVerS_laws z0 a0 k0 _ (hv0.below G0) hfew).mono ?_); rintro e w17 ⟨v17, ms17, rfl, hvm17, ownv17, hb⟩; have BS := BS.below hb BS.lt; have G0 := below_after G0 hb; have GX := below_after GX hb; obtain ⟨p17, c17, rfl, vv17⟩ := ownv17.open_; have BZ := BZ.below hb BZ.lt; obtain ⟨z0, z1, z2, z3, z4, z5, z6, zf, zl⟩ := BZ.seven) | ((with_reducible refine (toVerS_laws z0 a0 k0 _ (hv0.below G0) hfew).mono ?_); rintro e w17 ⟨v17, ms17, rfl, hvm17, ownv17, hb⟩; have BS := BS.below hb BS.lt; have G0 := below_after G0 hb; have GX := below_after GX hb; obtain ⟨p17, c17, rfl, vv17⟩ := ownv17.open_) | (have BZ := Blk.drew (Blk.new w15 #[.int .i64 0, .int .i64 0, .int .i64 0, .int .i64 0, .int .i64 0, .int .i64 0, .slice none 0 0] 27); have lbz_ := BSp.lt; have hne_ : w.heap.size ≠ w15.heap.size := (by omega); have hzl_ := Nat.le_refl w15.heap.size; have hz := (below_box w15 (.cells #[.int .i64 0, .int .i64 0, .int .i64 0, .int .i64 0, .int .i64 0, .int .i64 0, .slice none 0 0] 27)).drew; have BS := BSp.below hz BSp.lt; have G0 := below_after G0p hz; have GX := below_after GXp hz; have lz_ := BZ.lt; (with_reducible refine (toVerS_laws z0 a0 k0 _ (hv0.below G0) hfew).mono ?_); rintro e w17 ⟨v17, ms17, rfl, hvm17, ownv17, hb⟩; have BS := BS.below hb BS.lt; have G0 := below_after G0 hb; have GX := below_after GX hb; obtain ⟨p17, c17, rfl, vv17⟩ := ownv17.open_; have BZ := BZ.below hb BZ.lt; obtain ⟨z0, z1, z2, z3, z4, z5, z6, zf, zl⟩ := BZ.seven)) | (go_at_call 17; first | (have BZ := BZ; have lz_ := BZ.lt; (with_reducible refine (toStamp_laws _ _ _).mono ?_); rintro e w18 ⟨rfl, hb⟩; have BS := BS.below hb BS.lt; have G0 := below_after G0 hb; have GX := below_after GX hb; have ownv17 := ownv17.below hb; have BZ := BZ.below hb BZ.lt; obtain ⟨z0, z1, z2, z3, z4, z5, z6, zf, zl⟩ := BZ.seven) | ((with_reducible refine (toStamp_laws _ _ _).mono ?_); rintro e w18 ⟨rfl, hb⟩; have BS := BS.below hb BS.lt; have G0 := below_after G0 hb; have GX := below_after GX hb; have ownv17 := ownv17.below hb) | (have BZ := Blk.new w17 #[.int .i64 0, .int .i64 0, .int .i64 0, .int .i64 0, .int .i64 0, .int .i64 0, .slice none 0 0] 27; have lbz_ := BS.lt; have hne_ : w.heap.size ≠ w17.heap.size := (by omega); have hzl_ : w15.heap.size ≤ w17.heap.size := GX.size; have hz := below_box w17 (.cells #[.int .i64 0, .int .i64 0, .int .i64 0, .int .i64 0, .int .i64 0, .int .i64 0, .slice none 0 0] 27); have BS := BS.below hz BS.lt; have G0 := below_after G0 hz; have GX := below_after GX hz; have ownv17 := ownv17.below hz; have lz_ := BZ.lt; (with_reducible refine (toStamp_laws _ _ _).mono ?_); rintro e w18 ⟨rfl, hb⟩; have BS := BS.below hb BS.lt; have G0 := below_after G0 hb; have GX := below_after GX hb; have ownv17 := ownv17.below hb; have BZ := BZ.below hb BZ.lt; obtain ⟨z0, z1, z2, z3, z4, z5, z6, zf, zl⟩ := BZ.seven)) | (go_at_call 18; first | (have BZ := BZ; have lz_ := BZ.lt; (with_reducible refine (hAi ms17 p17 c17 _ hvm17 ownv17.vers).mono ?_); have gx_ := GX.size; rintro e w19 ⟨p19, c19, rfl, own19, hb⟩; have BS := BS.below hb BS.lt; have G0 := below_after G0 hb; have GX := below_after GX hb; have ownv17 := ownv17.below hb; have of_ := own19; have own19 := own_base own19 (show w15.heap.size ≤ _ by simpa using gx_); have BZ := BZ.below hb BZ.lt; obtain ⟨z0, z1, z2, z3, z4, z5, z6, zf, zl⟩ := BZ.seven) | ((with_reducible refine (hAi ms17 p17 c17 _ hvm17 ownv17.vers).mono ?_); have gx_ := GX.size; rintro e w19 ⟨p19, c19, rfl, own19, hb⟩; have BS := BS.below hb BS.lt; have G0 := below_after G0 hb; have GX := below_after GX hb; have ownv17 := ownv17.below hb; have of_ := own19; have own19 := own_base own19 (show w15.heap.size ≤ _ by simpa using gx_)) | (have BZ := Blk.new w18 #[.int .i64 0, .int .i64 0, .int .i64 0, .int .i64 0, .int .i64 0, .int .i64 0, .slice none 0 0] 27; have lbz_ := BS.lt; have hne_ : w.heap.size ≠ w18.heap.size := (by omega); have hzl_ : w15.heap.size ≤ w18.heap.size := GX.size; have hz := below_box w18 (.cells #[.int .i64 0, .int .i64 0, .int .i64 0, .int .i64 0, .int .i64 0, .int .i64 0, .slice none 0 0] 27); have BS := BS.below hz BS.lt; have G0 := below_after G0 hz; have GX := below_after GX hz; have ownv17 := ownv17.below hz; have lz_ := BZ.lt; (with_reducible refine (hAi ms17 p17 c17 _ hvm17 ownv17.vers).mono ?_); have gx_ := GX.size; rintro e w19 ⟨p19, c19, rfl, own19, hb⟩; have BS := BS.below hb BS.lt; have G0 := below_after G0 hb; have GX := below_after GX hb; have ownv17 := ownv17.below hb; have of_ := own19; have own19 := own_base own19 (show w15.heap.size ≤ _ by simpa using gx_); have BZ := BZ.below hb BZ.lt; obtain ⟨z0, z1, z2, z3, z4, z5, z6, zf, zl⟩ := BZ.seven)))
      all_goals clear hvm17 ownv17 vv17
      all_goals have first19 := own19
      all_goals (first
        | (have hle := hzl_
           have hap := own_ne' of_ lz_
           have GX := (below_setb (below_setb (below_setb (below_setb (below_setb (below_setb (below_setb GX (o := 0) hzl_ (.int .i64 V.key)) (o := 1) hzl_ (.int .i64 V.time)) (o := 2) hzl_ (.int .i64 V.site)) (o := 3) hzl_ (.int .i64 V.val)) (o := 4) hzl_ (.int .i64 V.client)) (o := 5) hzl_ (.int .i64 V.call)) (o := 6) hzl_ (.slice p19 V.deps.length c19))
           have own19 := (own_set (own_set (own_set (own_set (own_set (own_set (own_set own19 hap (o := 0) (.int .i64 V.key)) hap (o := 1) (.int .i64 V.time)) hap (o := 2) (.int .i64 V.site)) hap (o := 3) (.int .i64 V.val)) hap (o := 4) (.int .i64 V.client)) hap (o := 5) (.int .i64 V.call)) hap (o := 6) (.slice p19 V.deps.length c19))
           have BH := (((((((BZ.put0 (.int .i64 V.key)).put1 (.int .i64 V.time)).put2 (.int .i64 V.site)).put3 (.int .i64 V.val)).put4 (.int .i64 V.client)).put5 (.int .i64 V.call)).put6 (.slice p19 V.deps.length c19))
           clear BZ
           go_wp2_with fail
           go_meet
           exact ⟨_, p19, c19, rfl, rfl, BH, own19, GX, hle, hap⟩)
        | (have BH := Blk.new w19 #[.int .i64 V.key, .int .i64 V.time, .int .i64 V.site, .int .i64 V.val, .int .i64 V.client, .int .i64 V.call, .slice p19 V.deps.length c19] 27
           have hz := below_box w19 (.cells #[.int .i64 V.key, .int .i64 V.time, .int .i64 V.site, .int .i64 V.val, .int .i64 V.client, .int .i64 V.call, .slice p19 V.deps.length c19] 27)
           have hap := own_ne first19 (Nat.le_refl _)
           have hle := GX.size
           have GX := below_after GX hz
           have own19 := own_below own19 hz
           go_wp2_with fail
           go_meet
           exact ⟨_, p19, c19, rfl, rfl, BH, own19, GX, hle, hap⟩))
    case rest =>
    obtain ⟨B19, p19, c19, rfl, rfl, BH_, own19, hb19, hle19, hap19⟩ := hcut
    have own4 := own_below own4 hb19
    have own8 := own_below own8 hb19
    have BS := BS.below hb19 BS.lt
    have BW := BW.below hb19 BW.lt
    have BG := BG.below hb19 BG.lt
    have G0 := below_after G0 hb19
    have BH := BH_
    have first19 := own19
    have ltBH := BH.lt
    have ls19 := hb19.size
    obtain ⟨BS0, BS1, BSf, BSl⟩ := BS.two
    obtain ⟨BW0, BW1, BW2, BW3, BW4, BW5, BW6, BWf, BWl⟩ := BW.seven
    obtain ⟨BG0, BG1, BG2, BG3, BG4, BG5, BG6, BGf, BGl⟩ := BG.seven
    obtain ⟨BH0, BH1, BH2, BH3, BH4, BH5, BH6, BHf, BHl⟩ := BH.seven
    go_wp2_with fail
    refine (eqVer_same V p19 p4 c19 c4 _ (Reads.own own19) (Reads.own own4)).mono ?_
    rintro e w20 ⟨rfl, hb20⟩
    have own4 := own_below own4 hb20
    have own8 := own_below own8 hb20
    have own19 := own_below own19 hb20
    have BS := BS.below hb20 BS.lt
    have BW := BW.below hb20 BW.lt
    have BG := BG.below hb20 BG.lt
    have BH := BH.below hb20 BH.lt
    have G0 := below_after G0 hb20
    have ls20 := hb20.size
    obtain ⟨BS0, BS1, BSf, BSl⟩ := BS.two
    obtain ⟨BW0, BW1, BW2, BW3, BW4, BW5, BW6, BWf, BWl⟩ := BW.seven
    obtain ⟨BG0, BG1, BG2, BG3, BG4, BG5, BG6, BGf, BGl⟩ := BG.seven
    obtain ⟨BH0, BH1, BH2, BH3, BH4, BH5, BH6, BHf, BHl⟩ := BH.seven
    go_wp2_with fail
    refine (heldVer_laws V 1 p8 c8 _ (Reads.own own8) (by omega) (by omega) (by omega)).mono ?_
    rintro e w21 ⟨rfl, hb21⟩
    have own4 := own_below own4 hb21
    have own8 := own_below own8 hb21
    have own19 := own_below own19 hb21
    have BS := BS.below hb21 BS.lt
    have BW := BW.below hb21 BW.lt
    have BG := BG.below hb21 BG.lt
    have BH := BH.below hb21 BH.lt
    have G0 := below_after G0 hb21
    have ls21 := hb21.size
    obtain ⟨BS0, BS1, BSf, BSl⟩ := BS.two
    obtain ⟨BW0, BW1, BW2, BW3, BW4, BW5, BW6, BWf, BWl⟩ := BW.seven
    obtain ⟨BG0, BG1, BG2, BG3, BG4, BG5, BG6, BGf, BGl⟩ := BG.seven
    obtain ⟨BH0, BH1, BH2, BH3, BH4, BH5, BH6, BHf, BHl⟩ := BH.seven
    go_wp2
    go_ret
    exact ⟨rfl, G0⟩

set_option maxRecDepth 100000 in
theorem lifted (os : Os) (started : os.Started) (H : Type) (enc : TypeId × Value → H) :
    ReturnsInHanded {} Try.checked os 4 .any (Rows.fnExactChainAtSpec.pre6 enc Try.prog Try.f4 Rows.fnExactChainAtRow.domain false) (Rows.fnExactChainAtSpec.post enc Try.prog Try.f4 false true false false) := by
  refine returnsInHanded_of_change (C := Try.checked) own started (by kernel_rfl) Try.func4
    (ChangeSpec.witness6 (enc := enc) (C := Try.checked) false ⟨#[], #[.slice none 0 0, .int .i64 0, .agg #[.int .i64 0, .int .i64 0]], []⟩ 8 (by kernel_rfl) (by kernel_rfl) (by kernel_rfl) (by kernel_rfl)) ?_
  intro W base args ds gs before hval0 hW hcnd _
  have hval : ∀ (j : Nat) t v, Try.f4.params[j]? = some t → args[j]? = some v → Value.okWide Try.prog W .any base t v := hval0
  have hW' := hW
  obtain ⟨p, q, hA0, hV, rfl, hfz, hnd⟩ := hW
  have hA : DataW.TrodAll enc Try.prog W 0 (fun _ => true) true Try.f4.params.toList args.toList ds p := hA0
  rw [Try.params4] at hA hval
  obtain ⟨v0, vs0, d0, ds0, p0, q0, hargs, rfl, rfl, h0, r0⟩ := trodAll_cons hA
  obtain ⟨v1, vs1, d1, ds1, p1, q1, rfl, rfl, rfl, h1, r1⟩ := trodAll_cons r0
  obtain ⟨v2, vs2, d2, ds2, p2, q2, rfl, rfl, rfl, h2, r2⟩ := trodAll_cons r1
  obtain ⟨rfl, rfl, rfl⟩ := trodAll_nil r2
  obtain rfl : args = #[v0, v1, v2] := by cases args; simp_all
  obtain ⟨rfl, rfl⟩ := trodVars_none hV
  have lt0 : ∀ x ∈ p0, x.block < W.heap.size := by obtain ⟨m, hm⟩ := h0; exact DataW.trod_lt m _ _ _ hm
  obtain ⟨_, _, _, _, _, _, _, _, _, _, _, _, _, hV0⟩ := isVerL
  obtain ⟨a0, k0, z0, rfl, w0⟩ := vers_of Try.underlying34 hV0 (hval 0 34 v0 rfl rfl) h0
  have lt1 : ∀ x ∈ p1, x.block < W.heap.size := by obtain ⟨m, hm⟩ := h1; exact DataW.trod_lt m _ _ _ hm
  obtain ⟨n1, rfl, w1⟩ := int_of Try.underlying3 (hval 1 3 v1 rfl rfl) h1
  have lt2 : ∀ x ∈ p2, x.block < W.heap.size := by obtain ⟨m, hm⟩ := h2; exact DataW.trod_lt m _ _ _ hm
  obtain ⟨n2, m2, rfl, w2, u2⟩ := stamp_of Try.underlying35 (by kernel_rfl) (by kernel_rfl) Try.underlying3 Try.underlying3 (hval 2 35 v2 rfl rfl) h2
  clear hA0 hval0
  refine (walk a0 k0 z0 n1 n2 m2 W w0 w1 w2 u2).mono fun e W' ⟨he, bel⟩ => ?_
  subst he
  exact ⟨_, rfl, _, _, _, [], _, [], hW', trodAll_mk1 (shut_bool Try.underlying4 _), (trodAll_cons_mk (Below.trod laidOut (by kernel_rfl) (of_decide_eq_true (by kernel_rfl)) h0 bel lt0) (trodAll_cons_mk (Below.trod laidOut (by kernel_rfl) (of_decide_eq_true (by kernel_rfl)) h1 bel lt1) (trodAll_cons_mk (Below.trod laidOut (by kernel_rfl) (of_decide_eq_true (by kernel_rfl)) h2 bel lt2) trodAll_mk0))), rfl, bel.frame _, fun h => by cases h⟩

theorem over_row : Rows.fnExactChainAtRow.holds Try.pinned (OpenSpec.ofChange Rows.fnExactChainAtSpec) :=
  OpenClaim.holds_of_wide 4 Try.f4 rfl rfl rfl rfl rfl rfl rfl ⟨rfl, rfl, rfl, rfl, rfl⟩ rfl rfl rfl rfl rfl (by kernel_rfl) Try.func4 (by kernel_rfl)
    (of_decide_eq_true (by kernel_rfl)) (by unfold Func.isWrapper; first | (rw [if_pos (by decide +kernel)]; kernel_rfl) | (rw [if_neg (by decide +kernel)]; exact ⟨rfl, rfl⟩))
    (fun os started H enc _ => lifted os started H enc)

/-- The statement. -/
theorem proved : Rows.FnExactChainAtSaid := over_row
end Go.Proofs.Ythciikogogkfcaa.fnExactChainAt
