/- ChainSlot is the reference's. Of every input that the given statement lets in. -/
import Derived.Test.YtiigdbmfpibbdaaOpenV
import Derived.Test.YtiigdbmfpibbdaaChainL
import Derived.Test.YtiigdbmfpibbdaaChainW5
import Derived.Test.YtiigdbmfpibbdaaMarkV
namespace Go.Proofs.Ytiigdbmfpibbdaa.fnExactChainSlot
open Go.ChangeShapes Go.WideShapes Go.ChangeAt Go.RowKit
set_option linter.unusedVariables false
theorem sum_filter (l : List Vp) (p : Vp → Bool) : ((l.filter p).map fun v => v.deps.length).sum ≤ (l.map fun v => v.deps.length).sum := by
  induction l with
  | nil => simp
  | cons v l ih => rw [List.filter_cons]; split <;> simp <;> omega
theorem sumD_as (l : List Mv) : sumD l = ((vs l).map fun v => v.deps.length).sum := by simp [sumD, vs, Function.comp_def]
theorem cnt_size {l : List Mv} (h : sizeM l ≤ 1048576) : cntM l ≤ 6291456 := by unfold sizeM at h; unfold cntM; omega
theorem cnt_vs {l m : List Mv} (h : vs m = vs l) (hs : sizeM l ≤ 1048576) : cntM m ≤ 6291456 := by
  refine cnt_size ?_
  unfold sizeM at hs ⊢
  rw [sumD_vs h, ← vs_len m, h, vs_len]; exact hs
theorem filt_size {l m : List Mv} {p : Vp → Bool} (h : vs m = (vs l).filter p) (hs : sizeM l ≤ 1048576) : sizeM m ≤ 1048576 := by
  have h1 : sumD m ≤ sumD l := by rw [sumD_as, sumD_as, h]; exact sum_filter _ _
  have h2 : m.length ≤ l.length := by rw [← vs_len m, h, ← vs_len l]; exact List.length_filter_le _ _
  unfold sizeM at hs ⊢; omega
theorem nil_size {m : List Mv} (h : vs m = []) : sizeM m ≤ 1048576 := by
  have : m = [] := by cases m with
    | nil => rfl
    | cons a l => simp [vs] at h
  subst this; simp [sizeM, sumD]
theorem slot_in {l m : List Mv} {s : Int} (h : vs m = slotIn (vs l) s) (hs : sizeM l ≤ 1048576) : Few m ∧ cntM m ≤ 6291456 := by
  have : sizeM m ≤ 1048576 := by
    unfold slotIn at h; split at h
    · exact filt_size h hs
    · exact nil_size h
  exact ⟨few_of this, cnt_size this⟩
theorem slot_out {l m : List Mv} {s : Int} (h : vs m = slotOut (vs l) s) (hs : sizeM l ≤ 1048576) : Few m ∧ cntM m ≤ 6291456 := by
  have : sizeM m ≤ 1048576 := by
    unfold slotOut at h; split at h
    · exact filt_size h hs
    · exact nil_size h
  exact ⟨few_of this, cnt_size this⟩
theorem two_but {S : Nat → Prop} {N : Nat} {w w' : World} {v u : Value} {A B : List Mv} (h : OwnTwo N w v u A B) (hb : But S w w') (h1 : ∀ i, BlksOf v A i → ¬ S i) (h2 : ∀ i, BlksOf u B i → ¬ S i) : OwnTwo N w' v u A B := by
  have x := h.fst.but hb h1
  have y := h.snd.but hb h2
  refine ⟨x.own, y.own, h.ap, fun m hm => ?_, h.inn.apart⟩
  rcases List.mem_append.1 hm with hm | hm
  · exact x.inn.row m hm
  · exact y.inn.row m hm
theorem versM {N n c : Nat} {w : World} {a : Option Addr} {l : List Mv} (h : OwnVers N w (.slice a n c) l) (hn : l.length = n) : Vers w a c l := by subst hn; exact h.vers
set_option maxHeartbeats 2000000 in
theorem walk (a0 : Option Addr) (k0 : Nat) (z0 : List Mv) (n1 : Int) (w : World) (w0 : Vers w a0 k0 z0) (w1 : I64 n1) :
    Calls Try.prog 11 #[.slice a0 z0.length k0, .int .i64 n1] w fun e w' => e = .returned (.bool true) ∧ Below w.heap.size w w' := by
  have hv0 := w0
  clear w0
  go_enter Try.func11, Try.ntmps11
  go_wp2_with fail
  refine (szVerS_laws z0 1048576 a0 k0 _ hv0 (by omega) (by omega)).mono ?_
  rintro e w1 ⟨rfl, hb1⟩
  have G0 := hb1
  by_cases hbig : (1048576 : Int) < (sizeM z0 : Int)
  · have hz : szR 1048576 (sizeM z0) = -1 := by rw [szR, if_pos hbig]
    go_wp2
    go_ret
    exact ⟨rfl, G0⟩
  · have hz : szR 1048576 (sizeM z0) = 1048576 - (sizeM z0 : Int) := by rw [szR, if_neg hbig]
    have hge : (0 : Int) ≤ szR 1048576 (sizeM z0) := by omega
    have hle : szR 1048576 (sizeM z0) ≤ 1048576 := by omega
    have hfew := few_of (l := z0) (by omega)
    clear hz
    have hsz : sizeM z0 ≤ 1048576 := by omega
    go_wp2_with fail
    have sz2 := G0.size
    refine (toVerS_laws z0 a0 k0 _ (hv0.below G0) hfew).mono ?_
    rintro e w2 ⟨v2, ms2, rfl, hvm2, ownv2, hb2⟩
    obtain ⟨p2, c2, rfl, vv2⟩ := ownv2.open_
    have few2 := few_vs hvm2 hfew
    have HV2 := Lib.hid hvm2
    clear hvm2
    have G0 := below_after G0 hb2
    have firstv2 := ownv2
    have ls2 := hb2.size
    have hcn2 := cnt_vs HV2.out hsz
    go_wp2_with fail
    have sz3 := G0.size
    refine (ChainSlot_spec ms2 n1 p2 c2 _ ownv2.vers few2).mono ?_
    rintro e w3 ⟨v3, u3, A3, B3, rfl, hA3, hB3, two3, hb3⟩
    obtain ⟨pa3, ca3, rfl, _⟩ := two3.fst.open_
    obtain ⟨pb3, cb3, rfl, _⟩ := two3.snd.open_
    rw [HV2.out] at hA3 hB3
    obtain ⟨fA3, kA3⟩ := slot_in hA3 hsz
    obtain ⟨fB3, kB3⟩ := slot_out hB3 hsz
    have HA3 := Lib.hid hA3
    have HB3 := Lib.hid hB3
    clear hA3 hB3
    have kA30 := cntM_nonneg A3
    have kB30 := cntM_nonneg B3
    have G0 := below_after G0 hb3
    have ownv2 := ownv2.below hb3
    have ft3 := two3
    have ls3 := hb3.size
    go_wp2_with fail
    have sz4 := G0.size
    refine (toVerS_laws z0 a0 k0 _ (hv0.below G0) hfew).mono ?_
    rintro e w4 ⟨v4, ms4, rfl, hvm4, ownv4, hb4⟩
    obtain ⟨p4, c4, rfl, vv4⟩ := ownv4.open_
    have few4 := few_vs hvm4 hfew
    have HV4 := Lib.hid hvm4
    clear hvm4
    have G0 := below_after G0 hb4
    have two3 := two3.below hb4
    have firstv4 := ownv4
    have ls4 := hb4.size
    have hcn4 := cnt_vs HV4.out hsz
    go_wp2_with fail
    have sz5 := G0.size
    refine (ChainSlot_impl ms4 n1 p4 c4 _ ownv4.vers few4).mono ?_
    rintro e w5 ⟨v5, u5, A5, B5, rfl, hA5, hB5, two5, hb5⟩
    obtain ⟨pa5, ca5, rfl, _⟩ := two5.fst.open_
    obtain ⟨pb5, cb5, rfl, _⟩ := two5.snd.open_
    rw [HV4.out] at hA5 hB5
    obtain ⟨fA5, kA5⟩ := slot_in hA5 hsz
    obtain ⟨fB5, kB5⟩ := slot_out hB5 hsz
    have HA5 := Lib.hid hA5
    have HB5 := Lib.hid hB5
    clear hA5 hB5
    have kA50 := cntM_nonneg A5
    have kB50 := cntM_nonneg B5
    have G0 := below_after G0 hb5
    have ownv4 := ownv4.below hb5
    have two3 := two3.below hb5
    have ft5 := two5
    have ls5 := hb5.size
    go_wp2_with fail
    refine (eqVerS_same A5 A3 pa5 pa3 ca5 ca3 _ two5.fst.vers two3.fst.vers (by rw [HA5.out, HA3.out])).mono ?_
    rintro e w6 ⟨rfl, hb6⟩
    have G0 := below_after G0 hb6
    have ownv4 := ownv4.below hb6
    have two3 := two3.below hb6
    have two5 := two5.below hb6
    have ls6 := hb6.size
    go_wp2_with fail
    refine (eqVerS_same B5 B3 pb5 pb3 cb5 cb3 _ two5.snd.vers two3.snd.vers (by rw [HB5.out, HB3.out])).mono ?_
    rintro e w7 ⟨rfl, hb7⟩
    have G0 := below_after G0 hb7
    have ownv4 := ownv4.below hb7
    have two3 := two3.below hb7
    have two5 := two5.below hb7
    have ls7 := hb7.size
    go_wp2_with fail
    have sz8 := G0.size
    refine (toVerS_laws z0 a0 k0 _ (hv0.below G0) hfew).mono ?_
    rintro e w8 ⟨v8, ms8, rfl, hvm8, ownv8, hb8⟩
    obtain ⟨p8, c8, rfl, vv8⟩ := ownv8.open_
    have few8 := few_vs hvm8 hfew
    have HV8 := Lib.hid hvm8
    clear hvm8
    have G0 := below_after G0 hb8
    have ownv4 := ownv4.below hb8
    have two3 := two3.below hb8
    have two5 := two5.below hb8
    have firstv8 := ownv8
    have ls8 := hb8.size
    have hcn8 := cnt_vs HV8.out hsz
    go_wp2_with fail
    refine (eqVerS_same ms4 ms8 p4 p8 c4 c8 _ ownv4.vers ownv8.vers (by rw [HV4.out, HV8.out])).mono ?_
    rintro e w9 ⟨rfl, hb9⟩
    have G0 := below_after G0 hb9
    have ownv4 := ownv4.below hb9
    have ownv8 := ownv8.below hb9
    have two3 := two3.below hb9
    have two5 := two5.below hb9
    have ls9 := hb9.size
    go_wp2_with fail
    refine (markVerS_laws ms4 1 p4 c4 _ _ ownv4 (by omega) (by omega) few4).mono ?_
    rintro e w10 ⟨rfl, mk10, hB10⟩
    have two3 : OwnTwo _ w10 _ _ A3 B3 := two_but two3 hB10 (fun i h1 h2 => by have h3 := ft3.fst.blks i h1; have h4 := firstv4.blks i h2; omega) (fun i h1 h2 => by have h3 := ft3.snd.blks i h1; have h4 := firstv4.blks i h2; omega)
    have two5 : OwnTwo _ w10 _ _ A5 B5 := two_but two5 hB10 (fun i h1 h2 => by have h3 := ft5.fst.blks i h1; have h4 := firstv4.blks i h2; omega) (fun i h1 h2 => by have h3 := ft5.snd.blks i h1; have h4 := firstv4.blks i h2; omega)
    have G0 := hB10.below G0 fun i h2 => by have h4 := firstv4.blks i h2; omega
    have ls10 := hB10.size
    have hm0 := cntM_nonneg ms4
    go_wp2_with fail
    refine (eqVerS_same A5 A3 pa5 pa3 ca5 ca3 _ two5.fst.vers two3.fst.vers (by rw [HA5.out, HA3.out])).mono ?_
    rintro e w11 ⟨rfl, hb11⟩
    have G0 := below_after G0 hb11
    have two3 := two3.below hb11
    have two5 := two5.below hb11
    have ls11 := hb11.size
    go_wp2_with fail
    refine (eqVerS_same B5 B3 pb5 pb3 cb5 cb3 _ two5.snd.vers two3.snd.vers (by rw [HB5.out, HB3.out])).mono ?_
    rintro e w12 ⟨rfl, hb12⟩
    have G0 := below_after G0 hb12
    have two3 := two3.below hb12
    have two5 := two5.below hb12
    have ls12 := hb12.size
    go_wp2_with fail
    refine (markVerS_laws A5 1 pa5 ca5 _ _ two5.fst (by omega) (by omega) fA5).mono ?_
    rintro e w13 ⟨rfl, mkA, hB13⟩
    have mkB0 := two5.snd.but hB13 fun i h1 h2 => two5.disj i h2 h1
    have two3 : OwnTwo _ w13 _ _ A3 B3 := two_but two3 hB13 (fun i h1 h2 => by have h3 := ft3.fst.blks i h1; have h4 := ft5.fst.blks i h2; omega) (fun i h1 h2 => by have h3 := ft3.snd.blks i h1; have h4 := ft5.fst.blks i h2; omega)
    have G0 := hB13.below G0 fun i h2 => by have h4 := ft5.fst.blks i h2; omega
    have ls13 := hB13.size
    go_wp2_with fail
    refine (markVerS_laws B5 (1 + cntM A5) pb5 cb5 _ _ mkB0 (by omega) (by omega) fB5).mono ?_
    rintro e w14 ⟨rfl, mkB, hB14⟩
    have mkA := mkA.but hB14 fun i h1 h2 => two5.disj i (marksM_blks h1) h2
    have two3 : OwnTwo _ w14 _ _ A3 B3 := two_but two3 hB14 (fun i h1 h2 => by have h3 := ft3.fst.blks i h1; have h4 := ft5.snd.blks i h2; omega) (fun i h1 h2 => by have h3 := ft3.snd.blks i h1; have h4 := ft5.snd.blks i h2; omega)
    have G0 := hB14.below G0 fun i h2 => by have h4 := ft5.snd.blks i h2; omega
    have ls14 := hB14.size
    go_wp2_with fail
    refine (heldVerS_laws A5 1 pa5 ca5 _ (versM mkA (marksM_len _ _)) (by omega) (by omega) fA5).mono ?_
    rintro e w' ⟨rfl, rfl⟩
    go_wp2_with fail
    refine (heldVerS_laws B5 (1 + cntM A5) pb5 cb5 _ (versM mkB (marksM_len _ _)) (by omega) (by omega) fB5).mono ?_
    rintro e w' ⟨rfl, rfl⟩
    go_wp2_with fail
    have sz17 := G0.size
    refine (toVerS_laws z0 a0 k0 _ (hv0.below G0) hfew).mono ?_
    rintro e w17 ⟨v17, ms17, rfl, hvm17, ownv17, hb17⟩
    obtain ⟨p17, c17, rfl, vv17⟩ := ownv17.open_
    have few17 := few_vs hvm17 hfew
    have HV17 := Lib.hid hvm17
    clear hvm17
    have G0 := below_after G0 hb17
    have mkA := mkA.below hb17
    have mkB := mkB.below hb17
    have two3 := two3.below hb17
    have firstv17 := ownv17
    have ls17 := hb17.size
    have hcn17 := cnt_vs HV17.out hsz
    go_wp2_with fail
    have sz18 := G0.size
    refine (ChainSlot_impl ms17 n1 p17 c17 _ ownv17.vers few17).mono ?_
    rintro e w18 ⟨v18, u18, A18, B18, rfl, hA18, hB18, two18, hb18⟩
    obtain ⟨pa18, ca18, rfl, _⟩ := two18.fst.open_
    obtain ⟨pb18, cb18, rfl, _⟩ := two18.snd.open_
    rw [HV17.out] at hA18 hB18
    obtain ⟨fA18, kA18⟩ := slot_in hA18 hsz
    obtain ⟨fB18, kB18⟩ := slot_out hB18 hsz
    have HA18 := Lib.hid hA18
    have HB18 := Lib.hid hB18
    clear hA18 hB18
    have kA180 := cntM_nonneg A18
    have kB180 := cntM_nonneg B18
    have G0 := below_after G0 hb18
    have mkA := mkA.below hb18
    have mkB := mkB.below hb18
    have ownv17 := ownv17.below hb18
    have two3 := two3.below hb18
    have ft18 := two18
    have ls18 := hb18.size
    go_wp2_with fail
    refine (eqVerS_same A18 A3 pa18 pa3 ca18 ca3 _ two18.fst.vers two3.fst.vers (by rw [HA18.out, HA3.out])).mono ?_
    rintro e w19 ⟨rfl, hb19⟩
    have G0 := below_after G0 hb19
    have mkA := mkA.below hb19
    have mkB := mkB.below hb19
    have ownv17 := ownv17.below hb19
    have two3 := two3.below hb19
    have two18 := two18.below hb19
    have ls19 := hb19.size
    go_wp2_with fail
    refine (eqVerS_same B18 B3 pb18 pb3 cb18 cb3 _ two18.snd.vers two3.snd.vers (by rw [HB18.out, HB3.out])).mono ?_
    rintro e w20 ⟨rfl, hb20⟩
    have G0 := below_after G0 hb20
    have mkA := mkA.below hb20
    have mkB := mkB.below hb20
    have ownv17 := ownv17.below hb20
    have two3 := two3.below hb20
    have two18 := two18.below hb20
    have ls20 := hb20.size
    go_wp2_with fail
    refine (heldVerS_laws A5 1 pa5 ca5 _ (versM mkA (marksM_len _ _)) (by omega) (by omega) fA5).mono ?_
    rintro e w' ⟨rfl, rfl⟩
    go_wp2_with fail
    refine (heldVerS_laws B5 (1 + cntM A5) pb5 cb5 _ (versM mkB (marksM_len _ _)) (by omega) (by omega) fB5).mono ?_
    rintro e w' ⟨rfl, rfl⟩
    go_wp2
    go_ret
    exact ⟨rfl, G0⟩

set_option maxRecDepth 100000 in
theorem lifted (os : Os) (started : os.Started) (H : Type) (enc : TypeId × Value → H) :
    ReturnsInHanded {} Try.checked os 11 .any (Rows.fnExactChainSlotSpec.pre6 enc Try.prog Try.f11 Rows.fnExactChainSlotRow.domain false) (Rows.fnExactChainSlotSpec.post enc Try.prog Try.f11 false true false false) := by
  refine returnsInHanded_of_change (C := Try.checked) own started (by kernel_rfl) Try.func11
    (ChangeSpec.witness6 (enc := enc) (C := Try.checked) false ⟨#[], #[.slice none 0 0, .int .i64 0], []⟩ 8 (by kernel_rfl) (by kernel_rfl) (by kernel_rfl) (by kernel_rfl)) ?_
  intro W base args ds gs before hval0 hW hcnd _
  have hval : ∀ (j : Nat) t v, Try.f11.params[j]? = some t → args[j]? = some v → Value.okWide Try.prog W .any base t v := hval0
  have hW' := hW
  obtain ⟨p, q, hA0, hV, rfl, hfz, hnd⟩ := hW
  have hA : DataW.TrodAll enc Try.prog W 0 (fun _ => true) true Try.f11.params.toList args.toList ds p := hA0
  rw [Try.params11] at hA hval
  obtain ⟨v0, vs0, d0, ds0, p0, q0, hargs, rfl, rfl, h0, r0⟩ := trodAll_cons hA
  obtain ⟨v1, vs1, d1, ds1, p1, q1, rfl, rfl, rfl, h1, r1⟩ := trodAll_cons r0
  obtain ⟨rfl, rfl, rfl⟩ := trodAll_nil r1
  obtain rfl : args = #[v0, v1] := by cases args; simp_all
  obtain ⟨rfl, rfl⟩ := trodVars_none hV
  have lt0 : ∀ x ∈ p0, x.block < W.heap.size := by obtain ⟨m, hm⟩ := h0; exact DataW.trod_lt m _ _ _ hm
  obtain ⟨_, _, _, _, _, _, _, _, _, _, _, _, _, hV0⟩ := isVerL
  obtain ⟨a0, k0, z0, rfl, w0⟩ := vers_of Try.underlying51 hV0 (hval 0 51 v0 rfl rfl) h0
  have lt1 : ∀ x ∈ p1, x.block < W.heap.size := by obtain ⟨m, hm⟩ := h1; exact DataW.trod_lt m _ _ _ hm
  obtain ⟨n1, rfl, w1⟩ := int_of Try.underlying3 (hval 1 3 v1 rfl rfl) h1
  clear hA0 hval0
  refine (walk a0 k0 z0 n1 W w0 w1).mono fun e W' ⟨he, bel⟩ => ?_
  subst he
  exact ⟨_, rfl, _, _, _, [], _, [], hW', trodAll_mk1 (shut_bool Try.underlying4 _), (trodAll_cons_mk (Below.trod laidOut (by kernel_rfl) (of_decide_eq_true (by kernel_rfl)) h0 bel lt0) (trodAll_cons_mk (Below.trod laidOut (by kernel_rfl) (of_decide_eq_true (by kernel_rfl)) h1 bel lt1) trodAll_mk0)), rfl, bel.frame _, fun h => by cases h⟩

theorem over_row : Rows.fnExactChainSlotRow.holds Try.pinned (OpenSpec.ofChange Rows.fnExactChainSlotSpec) :=
  OpenClaim.holds_of_wide 11 Try.f11 rfl rfl rfl rfl rfl rfl rfl ⟨rfl, rfl, rfl, rfl, rfl⟩ rfl rfl rfl rfl rfl (by kernel_rfl) Try.func11 (by kernel_rfl)
    (of_decide_eq_true (by kernel_rfl)) (by unfold Func.isWrapper; first | (rw [if_pos (by decide +kernel)]; kernel_rfl) | (rw [if_neg (by decide +kernel)]; exact ⟨rfl, rfl⟩))
    (fun os started H enc _ => lifted os started H enc)

/-- The statement. -/
theorem proved : Rows.FnExactChainSlotSaid := over_row
end Go.Proofs.Ytiigdbmfpibbdaa.fnExactChainSlot
