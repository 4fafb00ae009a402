/- A word's validity: the reference's. -/
import Derived.Test.YthciikogogkfcaaWordW
namespace Go.Proofs.Ythciikogogkfcaa
open Go.RowKit Go.Deep
set_option linter.unusedVariables false

set_option maxRecDepth 100000 in
set_option maxHeartbeats 16000000 in
theorem WordOk_spec (x : Mw) (w : World) (hin : WordIn w x) (hf : FewW x) :
    Calls Try.prog 26 #[.agg #[.int .i64 x.kind, .int .i64 x.frm, .int .i64 x.to, .int .i64 x.call, .int .i64 x.key, .int .i64 x.time, .int .i64 x.site, .int .i64 x.val, .bool x.yes, .slice x.da x.deps.length x.dc, .int .i64 x.slot, .int .i64 x.epoch, .slice x.va x.vers.length x.vc, .slice x.wa x.waits.length x.wc, .slice x.oa x.owes.length x.oc]] w (Says (wordOkB x) w) := by
  have BV := Blk.new w #[.int .i64 x.kind, .int .i64 x.frm, .int .i64 x.to, .int .i64 x.call, .int .i64 x.key, .int .i64 x.time, .int .i64 x.site, .int .i64 x.val, .bool x.yes, .slice x.da x.deps.length x.dc, .int .i64 x.slot, .int .i64 x.epoch, .slice x.va x.vers.length x.vc, .slice x.wa x.waits.length x.wc, .slice x.oa x.owes.length x.oc] 48
  have G0 := below_box w (.cells #[.int .i64 x.kind, .int .i64 x.frm, .int .i64 x.to, .int .i64 x.call, .int .i64 x.key, .int .i64 x.time, .int .i64 x.site, .int .i64 x.val, .bool x.yes, .slice x.da x.deps.length x.dc, .int .i64 x.slot, .int .i64 x.epoch, .slice x.va x.vers.length x.vc, .slice x.wa x.waits.length x.wc, .slice x.oa x.owes.length x.oc] 48)
  obtain ⟨p0, p1, p2, p3, p4, p5, p6, p7, p8, p9, p10, p11, p12, p13, p14, pf, pl⟩ := BV.word
  go_enter Try.func26, Try.ntmps26
  simp only [List.append_eq, List.cons_append, List.nil_append]
  go_wp2_with fail
  refine (in_spec _ _ _ _).mono ?_
  rintro e w' ⟨rfl, rfl⟩
  rcases h0 : inB x.kind 1 10 with _ | _
  · skip
    have HB : Hid (wordOkB x = false) := by show _ = _; simp [wordOkB, h0]
    go_wp2
    go_ret
    exact ⟨by rw [HB.out]; rfl, G0⟩
  go_wp2_with fail
  refine (isSite_spec _ _).mono ?_
  rintro e w' ⟨rfl, rfl⟩
  rcases h1a : inB x.frm 0 3 with _ | _
  · skip
    go_wp2_with fail
    refine (isAddr_spec _ _).mono ?_
    rintro e w' ⟨rfl, rfl⟩
    rcases h1b : inB x.frm 10 11 with _ | _
    · have h1 : addrB x.frm = false := by rw [addrB, h1a, h1b]; rfl
      have HB : Hid (wordOkB x = false) := by show _ = _; simp [wordOkB, h0, h1]
      go_wp2
      go_ret
      exact ⟨by rw [HB.out]; rfl, G0⟩
    · have h1 : addrB x.frm = true := by rw [addrB, h1a, h1b]; rfl
      go_wp2_with fail
      refine (isSite_spec _ _).mono ?_
      rintro e w' ⟨rfl, rfl⟩
      rcases h2a : inB x.to 0 3 with _ | _
      · skip
        go_wp2_with fail
        refine (isAddr_spec _ _).mono ?_
        rintro e w' ⟨rfl, rfl⟩
        rcases h2b : inB x.to 10 11 with _ | _
        · have h2 : addrB x.to = false := by rw [addrB, h2a, h2b]; rfl
          have HB : Hid (wordOkB x = false) := by show _ = _; simp [wordOkB, h0, h1, h2]
          go_wp2
          go_ret
          exact ⟨by rw [HB.out]; rfl, G0⟩
        · have h2 : addrB x.to = true := by rw [addrB, h2a, h2b]; rfl
          go_wp2_with fail
          refine (in_spec _ _ _ _).mono ?_
          rintro e w' ⟨rfl, rfl⟩
          rcases h3 : inB x.call 0 99 with _ | _
          · skip
            have HB : Hid (wordOkB x = false) := by show _ = _; simp [wordOkB, h0, h1, h2, h3]
            go_wp2
            go_ret
            exact ⟨by rw [HB.out]; rfl, G0⟩
          go_wp2_with fail
          refine (isKey_spec _ _).mono ?_
          rintro e w' ⟨rfl, rfl⟩
          rcases h4 : inB x.key 0 5 with _ | _
          · skip
            have HB : Hid (wordOkB x = false) := by show _ = _; simp [wordOkB, h0, h1, h2, h3, h4]
            go_wp2
            go_ret
            exact ⟨by rw [HB.out]; rfl, G0⟩
          go_wp2_with fail
          refine (fits_spec _ _ _).mono ?_
          rintro e w6 ⟨rfl, hb5⟩
          have BV := BV.below hb5 BV.lt
          have G0 := below_after G0 hb5
          clear p0 p1 p2 p3 p4 p5 p6 p7 p8 p9 p10 p11 p12 p13 p14 pf pl
          obtain ⟨p0, p1, p2, p3, p4, p5, p6, p7, p8, p9, p10, p11, p12, p13, p14, pf, pl⟩ := BV.word
          rcases h5 : fitsB x.time x.site with _ | _
          · skip
            have HB : Hid (wordOkB x = false) := by show _ = _; simp [wordOkB, h0, h1, h2, h3, h4, h5]
            go_wp2
            go_ret
            exact ⟨by rw [HB.out]; rfl, G0⟩
          go_wp2_with fail
          refine (in_spec _ _ _ _).mono ?_
          rintro e w' ⟨rfl, rfl⟩
          rcases h6 : inB x.val 0 9999 with _ | _
          · skip
            have HB : Hid (wordOkB x = false) := by show _ = _; simp [wordOkB, h0, h1, h2, h3, h4, h5, h6]
            go_wp2
            go_ret
            exact ⟨by rw [HB.out]; rfl, G0⟩
          go_wp2_with fail
          refine (depsOk_spec x.deps x.da x.dc _ (hin.dp.below G0) hf.dp).mono ?_
          rintro e w8 ⟨rfl, hb7⟩
          have BV := BV.below hb7 BV.lt
          have G0 := below_after G0 hb7
          clear p0 p1 p2 p3 p4 p5 p6 p7 p8 p9 p10 p11 p12 p13 p14 pf pl
          obtain ⟨p0, p1, p2, p3, p4, p5, p6, p7, p8, p9, p10, p11, p12, p13, p14, pf, pl⟩ := BV.word
          rcases h7 : depsOkB x.deps with _ | _
          · skip
            have HB : Hid (wordOkB x = false) := by show _ = _; simp [wordOkB, h0, h1, h2, h3, h4, h5, h6, h7]
            go_wp2
            go_ret
            exact ⟨by rw [HB.out]; rfl, G0⟩
          go_wp2_with fail
          refine (in_spec _ _ _ _).mono ?_
          rintro e w' ⟨rfl, rfl⟩
          rcases h8 : inB x.slot 0 2 with _ | _
          · skip
            have HB : Hid (wordOkB x = false) := by show _ = _; simp [wordOkB, h0, h1, h2, h3, h4, h5, h6, h7, h8]
            go_wp2
            go_ret
            exact ⟨by rw [HB.out]; rfl, G0⟩
          go_wp2_with fail
          refine (in_spec _ _ _ _).mono ?_
          rintro e w' ⟨rfl, rfl⟩
          rcases h9 : inB x.epoch 0 9999 with _ | _
          · skip
            have HB : Hid (wordOkB x = false) := by show _ = _; simp [wordOkB, h0, h1, h2, h3, h4, h5, h6, h7, h8, h9]
            go_wp2
            go_ret
            exact ⟨by rw [HB.out]; rfl, G0⟩
          go_wp2_with fail
          refine (ChainOk_spec x.vers x.va x.vc _ (hin.vr.below G0) hf.vr).mono ?_
          rintro e w11 ⟨rfl, hb10⟩
          have BV := BV.below hb10 BV.lt
          have G0 := below_after G0 hb10
          clear p0 p1 p2 p3 p4 p5 p6 p7 p8 p9 p10 p11 p12 p13 p14 pf pl
          obtain ⟨p0, p1, p2, p3, p4, p5, p6, p7, p8, p9, p10, p11, p12, p13, p14, pf, pl⟩ := BV.word
          rcases h10 : chainOkB (vs x.vers) with _ | _
          · skip
            have HB : Hid (wordOkB x = false) := by show _ = _; simp [wordOkB, h0, h1, h2, h3, h4, h5, h6, h7, h8, h9, h10]
            go_wp2
            go_ret
            exact ⟨by rw [HB.out]; rfl, G0⟩
          go_wp2_with fail
          refine (ChainOk_spec x.waits x.wa x.wc _ (hin.wt.below G0) hf.wt).mono ?_
          rintro e w12 ⟨rfl, hb11⟩
          have BV := BV.below hb11 BV.lt
          have G0 := below_after G0 hb11
          clear p0 p1 p2 p3 p4 p5 p6 p7 p8 p9 p10 p11 p12 p13 p14 pf pl
          obtain ⟨p0, p1, p2, p3, p4, p5, p6, p7, p8, p9, p10, p11, p12, p13, p14, pf, pl⟩ := BV.word
          rcases h11 : chainOkB (vs x.waits) with _ | _
          · skip
            have HB : Hid (wordOkB x = false) := by show _ = _; simp [wordOkB, h0, h1, h2, h3, h4, h5, h6, h7, h8, h9, h10, h11]
            go_wp2
            go_ret
            exact ⟨by rw [HB.out]; rfl, G0⟩
          go_wp2_with fail
          refine (debts_spec x.owes x.oa x.oc _ (hin.ow.below G0) hf.ow).mono ?_
          rintro e w13 ⟨rfl, hb12⟩
          have BV := BV.below hb12 BV.lt
          have G0 := below_after G0 hb12
          clear p0 p1 p2 p3 p4 p5 p6 p7 p8 p9 p10 p11 p12 p13 p14 pf pl
          obtain ⟨p0, p1, p2, p3, p4, p5, p6, p7, p8, p9, p10, p11, p12, p13, p14, pf, pl⟩ := BV.word
          have HB : Hid (wordOkB x = debtsB x.owes) := by show _ = _; simp [wordOkB, h0, h1, h2, h3, h4, h5, h6, h7, h8, h9, h10, h11]
          go_wp2
          go_ret
          exact ⟨by rw [HB.out]; rfl, G0⟩
      · have h2 : addrB x.to = true := by rw [addrB, h2a]; rfl
        go_wp2_with fail
        refine (in_spec _ _ _ _).mono ?_
        rintro e w' ⟨rfl, rfl⟩
        rcases h3 : inB x.call 0 99 with _ | _
        · skip
          have HB : Hid (wordOkB x = false) := by show _ = _; simp [wordOkB, h0, h1, h2, h3]
          go_wp2
          go_ret
          exact ⟨by rw [HB.out]; rfl, G0⟩
        go_wp2_with fail
        refine (isKey_spec _ _).mono ?_
        rintro e w' ⟨rfl, rfl⟩
        rcases h4 : inB x.key 0 5 with _ | _
        · skip
          have HB : Hid (wordOkB x = false) := by show _ = _; simp [wordOkB, h0, h1, h2, h3, h4]
          go_wp2
          go_ret
          exact ⟨by rw [HB.out]; rfl, G0⟩
        go_wp2_with fail
        refine (fits_spec _ _ _).mono ?_
        rintro e w6 ⟨rfl, hb5⟩
        have BV := BV.below hb5 BV.lt
        have G0 := below_after G0 hb5
        clear p0 p1 p2 p3 p4 p5 p6 p7 p8 p9 p10 p11 p12 p13 p14 pf pl
        obtain ⟨p0, p1, p2, p3, p4, p5, p6, p7, p8, p9, p10, p11, p12, p13, p14, pf, pl⟩ := BV.word
        rcases h5 : fitsB x.time x.site with _ | _
        · skip
          have HB : Hid (wordOkB x = false) := by show _ = _; simp [wordOkB, h0, h1, h2, h3, h4, h5]
          go_wp2
          go_ret
          exact ⟨by rw [HB.out]; rfl, G0⟩
        go_wp2_with fail
        refine (in_spec _ _ _ _).mono ?_
        rintro e w' ⟨rfl, rfl⟩
        rcases h6 : inB x.val 0 9999 with _ | _
        · skip
          have HB : Hid (wordOkB x = false) := by show _ = _; simp [wordOkB, h0, h1, h2, h3, h4, h5, h6]
          go_wp2
          go_ret
          exact ⟨by rw [HB.out]; rfl, G0⟩
        go_wp2_with fail
        refine (depsOk_spec x.deps x.da x.dc _ (hin.dp.below G0) hf.dp).mono ?_
        rintro e w8 ⟨rfl, hb7⟩
        have BV := BV.below hb7 BV.lt
        have G0 := below_after G0 hb7
        clear p0 p1 p2 p3 p4 p5 p6 p7 p8 p9 p10 p11 p12 p13 p14 pf pl
        obtain ⟨p0, p1, p2, p3, p4, p5, p6, p7, p8, p9, p10, p11, p12, p13, p14, pf, pl⟩ := BV.word
        rcases h7 : depsOkB x.deps with _ | _
        · skip
          have HB : Hid (wordOkB x = false) := by show _ = _; simp [wordOkB, h0, h1, h2, h3, h4, h5, h6, h7]
          go_wp2
          go_ret
          exact ⟨by rw [HB.out]; rfl, G0⟩
        go_wp2_with fail
        refine (in_spec _ _ _ _).mono ?_
        rintro e w' ⟨rfl, rfl⟩
        rcases h8 : inB x.slot 0 2 with _ | _
        · skip
          have HB : Hid (wordOkB x = false) := by show _ = _; simp [wordOkB, h0, h1, h2, h3, h4, h5, h6, h7, h8]
          go_wp2
          go_ret
          exact ⟨by rw [HB.out]; rfl, G0⟩
        go_wp2_with fail
        refine (in_spec _ _ _ _).mono ?_
        rintro e w' ⟨rfl, rfl⟩
        rcases h9 : inB x.epoch 0 9999 with _ | _
        · skip
          have HB : Hid (wordOkB x = false) := by show _ = _; simp [wordOkB, h0, h1, h2, h3, h4, h5, h6, h7, h8, h9]
          go_wp2
          go_ret
          exact ⟨by rw [HB.out]; rfl, G0⟩
        go_wp2_with fail
        refine (ChainOk_spec x.vers x.va x.vc _ (hin.vr.below G0) hf.vr).mono ?_
        rintro e w11 ⟨rfl, hb10⟩
        have BV := BV.below hb10 BV.lt
        have G0 := below_after G0 hb10
        clear p0 p1 p2 p3 p4 p5 p6 p7 p8 p9 p10 p11 p12 p13 p14 pf pl
        obtain ⟨p0, p1, p2, p3, p4, p5, p6, p7, p8, p9, p10, p11, p12, p13, p14, pf, pl⟩ := BV.word
        rcases h10 : chainOkB (vs x.vers) with _ | _
        · skip
          have HB : Hid (wordOkB x = false) := by show _ = _; simp [wordOkB, h0, h1, h2, h3, h4, h5, h6, h7, h8, h9, h10]
          go_wp2
          go_ret
          exact ⟨by rw [HB.out]; rfl, G0⟩
        go_wp2_with fail
        refine (ChainOk_spec x.waits x.wa x.wc _ (hin.wt.below G0) hf.wt).mono ?_
        rintro e w12 ⟨rfl, hb11⟩
        have BV := BV.below hb11 BV.lt
        have G0 := below_after G0 hb11
        clear p0 p1 p2 p3 p4 p5 p6 p7 p8 p9 p10 p11 p12 p13 p14 pf pl
        obtain ⟨p0, p1, p2, p3, p4, p5, p6, p7, p8, p9, p10, p11, p12, p13, p14, pf, pl⟩ := BV.word
        rcases h11 : chainOkB (vs x.waits) with _ | _
        · skip
          have HB : Hid (wordOkB x = false) := by show _ = _; simp [wordOkB, h0, h1, h2, h3, h4, h5, h6, h7, h8, h9, h10, h11]
          go_wp2
          go_ret
          exact ⟨by rw [HB.out]; rfl, G0⟩
        go_wp2_with fail
        refine (debts_spec x.owes x.oa x.oc _ (hin.ow.below G0) hf.ow).mono ?_
        rintro e w13 ⟨rfl, hb12⟩
        have BV := BV.below hb12 BV.lt
        have G0 := below_after G0 hb12
        clear p0 p1 p2 p3 p4 p5 p6 p7 p8 p9 p10 p11 p12 p13 p14 pf pl
        obtain ⟨p0, p1, p2, p3, p4, p5, p6, p7, p8, p9, p10, p11, p12, p13, p14, pf, pl⟩ := BV.word
        have HB : Hid (wordOkB x = debtsB x.owes) := by show _ = _; simp [wordOkB, h0, h1, h2, h3, h4, h5, h6, h7, h8, h9, h10, h11]
        go_wp2
        go_ret
        exact ⟨by rw [HB.out]; rfl, G0⟩
  · have h1 : addrB x.frm = true := by rw [addrB, h1a]; rfl
    go_wp2_with fail
    refine (isSite_spec _ _).mono ?_
    rintro e w' ⟨rfl, rfl⟩
    rcases h2a : inB x.to 0 3 with _ | _
    · skip
      go_wp2_with fail
      refine (isAddr_spec _ _).mono ?_
      rintro e w' ⟨rfl, rfl⟩
      rcases h2b : inB x.to 10 11 with _ | _
      · have h2 : addrB x.to = false := by rw [addrB, h2a, h2b]; rfl
        have HB : Hid (wordOkB x = false) := by show _ = _; simp [wordOkB, h0, h1, h2]
        go_wp2
        go_ret
        exact ⟨by rw [HB.out]; rfl, G0⟩
      · have h2 : addrB x.to = true := by rw [addrB, h2a, h2b]; rfl
        go_wp2_with fail
        refine (in_spec _ _ _ _).mono ?_
        rintro e w' ⟨rfl, rfl⟩
        rcases h3 : inB x.call 0 99 with _ | _
        · skip
          have HB : Hid (wordOkB x = false) := by show _ = _; simp [wordOkB, h0, h1, h2, h3]
          go_wp2
          go_ret
          exact ⟨by rw [HB.out]; rfl, G0⟩
        go_wp2_with fail
        refine (isKey_spec _ _).mono ?_
        rintro e w' ⟨rfl, rfl⟩
        rcases h4 : inB x.key 0 5 with _ | _
        · skip
          have HB : Hid (wordOkB x = false) := by show _ = _; simp [wordOkB, h0, h1, h2, h3, h4]
          go_wp2
          go_ret
          exact ⟨by rw [HB.out]; rfl, G0⟩
        go_wp2_with fail
        refine (fits_spec _ _ _).mono ?_
        rintro e w6 ⟨rfl, hb5⟩
        have BV := BV.below hb5 BV.lt
        have G0 := below_after G0 hb5
        clear p0 p1 p2 p3 p4 p5 p6 p7 p8 p9 p10 p11 p12 p13 p14 pf pl
        obtain ⟨p0, p1, p2, p3, p4, p5, p6, p7, p8, p9, p10, p11, p12, p13, p14, pf, pl⟩ := BV.word
        rcases h5 : fitsB x.time x.site with _ | _
        · skip
          have HB : Hid (wordOkB x = false) := by show _ = _; simp [wordOkB, h0, h1, h2, h3, h4, h5]
          go_wp2
          go_ret
          exact ⟨by rw [HB.out]; rfl, G0⟩
        go_wp2_with fail
        refine (in_spec _ _ _ _).mono ?_
        rintro e w' ⟨rfl, rfl⟩
        rcases h6 : inB x.val 0 9999 with _ | _
        · skip
          have HB : Hid (wordOkB x = false) := by show _ = _; simp [wordOkB, h0, h1, h2, h3, h4, h5, h6]
          go_wp2
          go_ret
          exact ⟨by rw [HB.out]; rfl, G0⟩
        go_wp2_with fail
        refine (depsOk_spec x.deps x.da x.dc _ (hin.dp.below G0) hf.dp).mono ?_
        rintro e w8 ⟨rfl, hb7⟩
        have BV := BV.below hb7 BV.lt
        have G0 := below_after G0 hb7
        clear p0 p1 p2 p3 p4 p5 p6 p7 p8 p9 p10 p11 p12 p13 p14 pf pl
        obtain ⟨p0, p1, p2, p3, p4, p5, p6, p7, p8, p9, p10, p11, p12, p13, p14, pf, pl⟩ := BV.word
        rcases h7 : depsOkB x.deps with _ | _
        · skip
          have HB : Hid (wordOkB x = false) := by show _ = _; simp [wordOkB, h0, h1, h2, h3, h4, h5, h6, h7]
          go_wp2
          go_ret
          exact ⟨by rw [HB.out]; rfl, G0⟩
        go_wp2_with fail
        refine (in_spec _ _ _ _).mono ?_
        rintro e w' ⟨rfl, rfl⟩
        rcases h8 : inB x.slot 0 2 with _ | _
        · skip
          have HB : Hid (wordOkB x = false) := by show _ = _; simp [wordOkB, h0, h1, h2, h3, h4, h5, h6, h7, h8]
          go_wp2
          go_ret
          exact ⟨by rw [HB.out]; rfl, G0⟩
        go_wp2_with fail
        refine (in_spec _ _ _ _).mono ?_
        rintro e w' ⟨rfl, rfl⟩
        rcases h9 : inB x.epoch 0 9999 with _ | _
        · skip
          have HB : Hid (wordOkB x = false) := by show _ = _; simp [wordOkB, h0, h1, h2, h3, h4, h5, h6, h7, h8, h9]
          go_wp2
          go_ret
          exact ⟨by rw [HB.out]; rfl, G0⟩
        go_wp2_with fail
        refine (ChainOk_spec x.vers x.va x.vc _ (hin.vr.below G0) hf.vr).mono ?_
        rintro e w11 ⟨rfl, hb10⟩
        have BV := BV.below hb10 BV.lt
        have G0 := below_after G0 hb10
        clear p0 p1 p2 p3 p4 p5 p6 p7 p8 p9 p10 p11 p12 p13 p14 pf pl
        obtain ⟨p0, p1, p2, p3, p4, p5, p6, p7, p8, p9, p10, p11, p12, p13, p14, pf, pl⟩ := BV.word
        rcases h10 : chainOkB (vs x.vers) with _ | _
        · skip
          have HB : Hid (wordOkB x = false) := by show _ = _; simp [wordOkB, h0, h1, h2, h3, h4, h5, h6, h7, h8, h9, h10]
          go_wp2
          go_ret
          exact ⟨by rw [HB.out]; rfl, G0⟩
        go_wp2_with fail
        refine (ChainOk_spec x.waits x.wa x.wc _ (hin.wt.below G0) hf.wt).mono ?_
        rintro e w12 ⟨rfl, hb11⟩
        have BV := BV.below hb11 BV.lt
        have G0 := below_after G0 hb11
        clear p0 p1 p2 p3 p4 p5 p6 p7 p8 p9 p10 p11 p12 p13 p14 pf pl
        obtain ⟨p0, p1, p2, p3, p4, p5, p6, p7, p8, p9, p10, p11, p12, p13, p14, pf, pl⟩ := BV.word
        rcases h11 : chainOkB (vs x.waits) with _ | _
        · skip
          have HB : Hid (wordOkB x = false) := by show _ = _; simp [wordOkB, h0, h1, h2, h3, h4, h5, h6, h7, h8, h9, h10, h11]
          go_wp2
          go_ret
          exact ⟨by rw [HB.out]; rfl, G0⟩
        go_wp2_with fail
        refine (debts_spec x.owes x.oa x.oc _ (hin.ow.below G0) hf.ow).mono ?_
        rintro e w13 ⟨rfl, hb12⟩
        have BV := BV.below hb12 BV.lt
        have G0 := below_after G0 hb12
        clear p0 p1 p2 p3 p4 p5 p6 p7 p8 p9 p10 p11 p12 p13 p14 pf pl
        obtain ⟨p0, p1, p2, p3, p4, p5, p6, p7, p8, p9, p10, p11, p12, p13, p14, pf, pl⟩ := BV.word
        have HB : Hid (wordOkB x = debtsB x.owes) := by show _ = _; simp [wordOkB, h0, h1, h2, h3, h4, h5, h6, h7, h8, h9, h10, h11]
        go_wp2
        go_ret
        exact ⟨by rw [HB.out]; rfl, G0⟩
    · have h2 : addrB x.to = true := by rw [addrB, h2a]; rfl
      go_wp2_with fail
      refine (in_spec _ _ _ _).mono ?_
      rintro e w' ⟨rfl, rfl⟩
      rcases h3 : inB x.call 0 99 with _ | _
      · skip
        have HB : Hid (wordOkB x = false) := by show _ = _; simp [wordOkB, h0, h1, h2, h3]
        go_wp2
        go_ret
        exact ⟨by rw [HB.out]; rfl, G0⟩
      go_wp2_with fail
      refine (isKey_spec _ _).mono ?_
      rintro e w' ⟨rfl, rfl⟩
      rcases h4 : inB x.key 0 5 with _ | _
      · skip
        have HB : Hid (wordOkB x = false) := by show _ = _; simp [wordOkB, h0, h1, h2, h3, h4]
        go_wp2
        go_ret
        exact ⟨by rw [HB.out]; rfl, G0⟩
      go_wp2_with fail
      refine (fits_spec _ _ _).mono ?_
      rintro e w6 ⟨rfl, hb5⟩
      have BV := BV.below hb5 BV.lt
      have G0 := below_after G0 hb5
      clear p0 p1 p2 p3 p4 p5 p6 p7 p8 p9 p10 p11 p12 p13 p14 pf pl
      obtain ⟨p0, p1, p2, p3, p4, p5, p6, p7, p8, p9, p10, p11, p12, p13, p14, pf, pl⟩ := BV.word
      rcases h5 : fitsB x.time x.site with _ | _
      · skip
        have HB : Hid (wordOkB x = false) := by show _ = _; simp [wordOkB, h0, h1, h2, h3, h4, h5]
        go_wp2
        go_ret
        exact ⟨by rw [HB.out]; rfl, G0⟩
      go_wp2_with fail
      refine (in_spec _ _ _ _).mono ?_
      rintro e w' ⟨rfl, rfl⟩
      rcases h6 : inB x.val 0 9999 with _ | _
      · skip
        have HB : Hid (wordOkB x = false) := by show _ = _; simp [wordOkB, h0, h1, h2, h3, h4, h5, h6]
        go_wp2
        go_ret
        exact ⟨by rw [HB.out]; rfl, G0⟩
      go_wp2_with fail
      refine (depsOk_spec x.deps x.da x.dc _ (hin.dp.below G0) hf.dp).mono ?_
      rintro e w8 ⟨rfl, hb7⟩
      have BV := BV.below hb7 BV.lt
      have G0 := below_after G0 hb7
      clear p0 p1 p2 p3 p4 p5 p6 p7 p8 p9 p10 p11 p12 p13 p14 pf pl
      obtain ⟨p0, p1, p2, p3, p4, p5, p6, p7, p8, p9, p10, p11, p12, p13, p14, pf, pl⟩ := BV.word
      rcases h7 : depsOkB x.deps with _ | _
      · skip
        have HB : Hid (wordOkB x = false) := by show _ = _; simp [wordOkB, h0, h1, h2, h3, h4, h5, h6, h7]
        go_wp2
        go_ret
        exact ⟨by rw [HB.out]; rfl, G0⟩
      go_wp2_with fail
      refine (in_spec _ _ _ _).mono ?_
      rintro e w' ⟨rfl, rfl⟩
      rcases h8 : inB x.slot 0 2 with _ | _
      · skip
        have HB : Hid (wordOkB x = false) := by show _ = _; simp [wordOkB, h0, h1, h2, h3, h4, h5, h6, h7, h8]
        go_wp2
        go_ret
        exact ⟨by rw [HB.out]; rfl, G0⟩
      go_wp2_with fail
      refine (in_spec _ _ _ _).mono ?_
      rintro e w' ⟨rfl, rfl⟩
      rcases h9 : inB x.epoch 0 9999 with _ | _
      · skip
        have HB : Hid (wordOkB x = false) := by show _ = _; simp [wordOkB, h0, h1, h2, h3, h4, h5, h6, h7, h8, h9]
        go_wp2
        go_ret
        exact ⟨by rw [HB.out]; rfl, G0⟩
      go_wp2_with fail
      refine (ChainOk_spec x.vers x.va x.vc _ (hin.vr.below G0) hf.vr).mono ?_
      rintro e w11 ⟨rfl, hb10⟩
      have BV := BV.below hb10 BV.lt
      have G0 := below_after G0 hb10
      clear p0 p1 p2 p3 p4 p5 p6 p7 p8 p9 p10 p11 p12 p13 p14 pf pl
      obtain ⟨p0, p1, p2, p3, p4, p5, p6, p7, p8, p9, p10, p11, p12, p13, p14, pf, pl⟩ := BV.word
      rcases h10 : chainOkB (vs x.vers) with _ | _
      · skip
        have HB : Hid (wordOkB x = false) := by show _ = _; simp [wordOkB, h0, h1, h2, h3, h4, h5, h6, h7, h8, h9, h10]
        go_wp2
        go_ret
        exact ⟨by rw [HB.out]; rfl, G0⟩
      go_wp2_with fail
      refine (ChainOk_spec x.waits x.wa x.wc _ (hin.wt.below G0) hf.wt).mono ?_
      rintro e w12 ⟨rfl, hb11⟩
      have BV := BV.below hb11 BV.lt
      have G0 := below_after G0 hb11
      clear p0 p1 p2 p3 p4 p5 p6 p7 p8 p9 p10 p11 p12 p13 p14 pf pl
      obtain ⟨p0, p1, p2, p3, p4, p5, p6, p7, p8, p9, p10, p11, p12, p13, p14, pf, pl⟩ := BV.word
      rcases h11 : chainOkB (vs x.waits) with _ | _
      · skip
        have HB : Hid (wordOkB x = false) := by show _ = _; simp [wordOkB, h0, h1, h2, h3, h4, h5, h6, h7, h8, h9, h10, h11]
        go_wp2
        go_ret
        exact ⟨by rw [HB.out]; rfl, G0⟩
      go_wp2_with fail
      refine (debts_spec x.owes x.oa x.oc _ (hin.ow.below G0) hf.ow).mono ?_
      rintro e w13 ⟨rfl, hb12⟩
      have BV := BV.below hb12 BV.lt
      have G0 := below_after G0 hb12
      clear p0 p1 p2 p3 p4 p5 p6 p7 p8 p9 p10 p11 p12 p13 p14 pf pl
      obtain ⟨p0, p1, p2, p3, p4, p5, p6, p7, p8, p9, p10, p11, p12, p13, p14, pf, pl⟩ := BV.word
      have HB : Hid (wordOkB x = debtsB x.owes) := by show _ = _; simp [wordOkB, h0, h1, h2, h3, h4, h5, h6, h7, h8, h9, h10, h11]
      go_wp2
      go_ret
      exact ⟨by rw [HB.out]; rfl, G0⟩
end Go.Proofs.Ythciikogogkfcaa
