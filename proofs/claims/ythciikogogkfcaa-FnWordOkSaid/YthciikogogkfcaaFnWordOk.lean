/- What is less than a word that is ok is ok. Of every input that the given statement lets in. -/
import Derived.Test.YthciikogogkfcaaOpen
import Derived.Test.YthciikogogkfcaaDrawW2
import Derived.Test.YthciikogogkfcaaWordW
import Derived.Test.YthciikogogkfcaaWordW2
namespace Go.Proofs.Ythciikogogkfcaa.fnWordOk
open Go.ChangeShapes Go.WideShapes Go.ChangeAt Go.RowKit
set_option linter.unusedVariables false
theorem word_less {x : Mw} (h : wordOkB x = true) : wordOkB { x with deps := [], da := none, dc := 0, vers := [], va := none, vc := 0, waits := [], wa := none, wc := 0, owes := [], oa := none, oc := 0 } = true := by
  simp only [wordOkB, Bool.and_eq_true] at h ⊢
  obtain ⟨h1, h2, h3, h4, h5, h6, h7, h8, h9, h10, h11, h12, h13⟩ := h
  exact ⟨h1, h2, h3, h4, h5, h6, h7, rfl, h9, h10, rfl, rfl, rfl⟩
theorem word_off {x : Mw} (n : Int) (h0 : 4 ≤ n) (h1 : n ≤ 9) : wordOkB { x with «to» := n } = false := by
  have ha : addrB n = false := by
    unfold addrB
    rw [(inB_not).2 (by omega), (inB_not).2 (by omega)]; rfl
  show (inB x.kind 1 10 && (addrB x.frm && (addrB n && _))) = false
  rw [ha]; simp
set_option maxRecDepth 100000 in
set_option maxHeartbeats 4000000 in
theorem walk (a0 : Option Addr) (l0 k0 : Nat) (w : World) (w0 : BytesIn w a0 l0 k0) :
    Calls Try.prog 5 #[.slice a0 l0 k0] w fun e w' => e = .returned (.bool true) ∧ Below w.heap.size w w' := by
  by_cases hbig : 1048576 < l0
  · have hbig' : (1048576 : Int) < (l0 : Int) := by omega
    go_enter Try.func5, Try.ntmps5
    go_wp2
    go_ret
    exact ⟨rfl, Below.refl _ _⟩
  · have hbig' : (l0 : Int) ≤ (1048576 : Int) := by omega
    go_enter Try.func5, Try.ntmps5
    go_wp2_with fail
    refine (DrawWordOk_any _ _ _ _ w0).mono ?_
    rintro e w1 ⟨x, rfl, hin, hf, hf0, ht0, hb1⟩
    have G0 := hb1
    have BW := Blk.new w1 #[.int .i64 x.kind, .int .i64 x.frm, .int .i64 x.to, .int .i64 x.call, .int .i64 x.key, .int .i64 x.time, .int .i64 x.site, .int .i64 x.val, .bool x.yes, .slice x.da x.deps.length x.dc, .int .i64 x.slot, .int .i64 x.epoch, .slice x.va x.vers.length x.vc, .slice x.wa x.waits.length x.wc, .slice x.oa x.owes.length x.oc] 48
    have hbx := below_box w1 (.cells #[.int .i64 x.kind, .int .i64 x.frm, .int .i64 x.to, .int .i64 x.call, .int .i64 x.key, .int .i64 x.time, .int .i64 x.site, .int .i64 x.val, .bool x.yes, .slice x.da x.deps.length x.dc, .int .i64 x.slot, .int .i64 x.epoch, .slice x.va x.vers.length x.vc, .slice x.wa x.waits.length x.wc, .slice x.oa x.owes.length x.oc] 48)
    have hin := hin.below hbx
    have G0 := below_after G0 hbx
    obtain ⟨p0, p1, p2, p3, p4, p5, p6, p7, p8, p9, p10, p11, p12, p13, p14, pf, pl⟩ := BW.word
    obtain ⟨b, hbv⟩ : ∃ b, wordOkB x = b := ⟨_, rfl⟩
    have HB := Lib.hid hbv
    clear hbv
    go_wp2_with fail
    refine (bool_is HB.out (WordOk_impl x _ hin hf ⟨by omega, by omega⟩ ⟨by omega, by omega⟩)).mono ?_
    rintro e w2 ⟨rfl, hb2⟩
    have BW := BW.below hb2 BW.lt
    have hin := hin.below hb2
    have G0 := below_after G0 hb2
    clear p0 p1 p2 p3 p4 p5 p6 p7 p8 p9 p10 p11 p12 p13 p14 pf pl
    obtain ⟨q0, q1, q2, q3, q4, q5, q6, q7, q8, q9, q10, q11, q12, q13, q14, qf, ql⟩ := BW.word
    go_wp2_with fail
    refine (bool_is HB.out (WordOk_spec x _ hin hf)).mono ?_
    rintro e w3 ⟨rfl, hb3⟩
    have BW := BW.below hb3 BW.lt
    have hin := hin.below hb3
    have G0 := below_after G0 hb3
    clear q0 q1 q2 q3 q4 q5 q6 q7 q8 q9 q10 q11 q12 q13 q14 qf ql
    obtain ⟨r0, r1, r2, r3, r4, r5, r6, r7, r8, r9, r10, r11, r12, r13, r14, rf, rl⟩ := BW.word
    cases b with
    | false =>
      go_wp2_with fail
      refine (bool_is HB.out (WordOk_spec x _ hin hf)).mono ?_
      rintro e w4 ⟨rfl, hb4⟩
      have BW := BW.below hb4 BW.lt
      have hin := hin.below hb4
      have G0 := below_after G0 hb4
      go_wp2
      go_ret
      exact ⟨rfl, G0⟩
    | true =>
      have HX := Lib.hid (word_less HB.out)
      have hm0 : 0 ≤ (l0 : Int) % 6 := by omega
      have hm1 : (l0 : Int) % 6 ≤ 5 := by omega
      have HY := Lib.hid (word_off (x := x) (4 + (l0 : Int) % 6) (by omega) (by omega))
      go_wp2_with fail
      have BY := Blk.new (w3.alloc (.cells #[.int .i64 x.kind, .int .i64 x.frm, .int .i64 x.to, .int .i64 x.call, .int .i64 x.key, .int .i64 x.time, .int .i64 x.site, .int .i64 x.val, .bool x.yes, .slice none 0 0, .int .i64 x.slot, .int .i64 x.epoch, .slice none 0 0, .slice none 0 0, .slice none 0 0] 48)) #[.int .i64 x.kind, .int .i64 x.frm, .int .i64 (4 + (l0 : Int) % 6), .int .i64 x.call, .int .i64 x.key, .int .i64 x.time, .int .i64 x.site, .int .i64 x.val, .bool x.yes, .slice x.da x.deps.length x.dc, .int .i64 x.slot, .int .i64 x.epoch, .slice x.va x.vers.length x.vc, .slice x.wa x.waits.length x.wc, .slice x.oa x.owes.length x.oc] 48
      simp only [World.size_alloc] at BY
      have hbz := below_box2 w3 (.cells #[.int .i64 x.kind, .int .i64 x.frm, .int .i64 x.to, .int .i64 x.call, .int .i64 x.key, .int .i64 x.time, .int .i64 x.site, .int .i64 x.val, .bool x.yes, .slice none 0 0, .int .i64 x.slot, .int .i64 x.epoch, .slice none 0 0, .slice none 0 0, .slice none 0 0] 48) (.cells #[.int .i64 x.kind, .int .i64 x.frm, .int .i64 (4 + (l0 : Int) % 6), .int .i64 x.call, .int .i64 x.key, .int .i64 x.time, .int .i64 x.site, .int .i64 x.val, .bool x.yes, .slice x.da x.deps.length x.dc, .int .i64 x.slot, .int .i64 x.epoch, .slice x.va x.vers.length x.vc, .slice x.wa x.waits.length x.wc, .slice x.oa x.owes.length x.oc] 48)
      have hin := hin.below hbz
      have G0 := below_after G0 hbz
      refine (bool_is HX.out (WordOk_impl { x with deps := [], da := none, dc := 0, vers := [], va := none, vc := 0, waits := [], wa := none, wc := 0, owes := [], oa := none, oc := 0 } _ ⟨reads_nilD _, Vers.nil _, Vers.nil _, reads_nilD _⟩ ⟨by simp, few_nil, few_nil, by simp⟩ ⟨by show -9223372036854775808 ≤ x.frm; omega, by show x.frm ≤ 9223372036854775807; omega⟩ ⟨by show -9223372036854775808 ≤ x.to; omega, by show x.to ≤ 9223372036854775807; omega⟩)).mono ?_
      rintro e w5 ⟨rfl, hb5⟩
      have BY := BY.below hb5 BY.lt
      have hin := hin.below hb5
      have G0 := below_after G0 hb5
      obtain ⟨s0, s1, s2, s3, s4, s5, s6, s7, s8, s9, s10, s11, s12, s13, s14, sf, sl⟩ := BY.word
      go_wp2_with fail
      refine (bool_is HY.out (WordOk_impl { x with «to» := 4 + (l0 : Int) % 6 } _ ⟨hin.dp, hin.vr, hin.wt, hin.ow⟩ ⟨hf.dp, hf.vr, hf.wt, hf.ow⟩ ⟨by show -9223372036854775808 ≤ x.frm; omega, by show x.frm ≤ 9223372036854775807; omega⟩ ⟨by show -9223372036854775808 ≤ 4 + (l0 : Int) % 6; omega, by show 4 + (l0 : Int) % 6 ≤ 9223372036854775807; omega⟩)).mono ?_
      rintro e w6 ⟨rfl, hb6⟩
      have G0 := below_after G0 hb6
      go_wp2
      go_ret
      exact ⟨rfl, G0⟩

set_option maxRecDepth 100000 in
theorem lifted (os : Os) (started : os.Started) (H : Type) (enc : TypeId × Value → H) :
    ReturnsInHanded {} Try.checked os 5 .any (Rows.fnWordOkSpec.pre6 enc Try.prog Try.f5 Rows.fnWordOkRow.domain false) (Rows.fnWordOkSpec.post enc Try.prog Try.f5 false true false false) := by
  refine returnsInHanded_of_change (C := Try.checked) own started (by kernel_rfl) Try.func5
    (ChangeSpec.witness6 (enc := enc) (C := Try.checked) false ⟨#[], #[.slice none 0 0], []⟩ 8 (by kernel_rfl) (by kernel_rfl) (by kernel_rfl) (by kernel_rfl)) ?_
  intro W base args ds gs before hval0 hW hcnd _
  have hval : ∀ (j : Nat) t v, Try.f5.params[j]? = some t → args[j]? = some v → Value.okWide Try.prog W .any base t v := hval0
  have hW' := hW
  obtain ⟨p, q, hA0, hV, rfl, hfz, hnd⟩ := hW
  have hA : DataW.TrodAll enc Try.prog W 0 (fun _ => true) true Try.f5.params.toList args.toList ds p := hA0
  rw [Try.params5] at hA hval
  obtain ⟨v0, vs0, d0, ds0, p0, q0, hargs, rfl, rfl, h0, r0⟩ := trodAll_cons hA
  obtain ⟨rfl, rfl, rfl⟩ := trodAll_nil r0
  obtain rfl : args = #[v0] := by cases args; simp_all
  obtain ⟨rfl, rfl⟩ := trodVars_none hV
  have lt0 : ∀ x ∈ p0, x.block < W.heap.size := by obtain ⟨m, hm⟩ := h0; exact DataW.trod_lt m _ _ _ hm
  obtain ⟨a0, l0, k0, rfl, w0⟩ := bytes_of Try.underlying22 Try.underlying5 (by kernel_rfl) (hval 0 22 v0 rfl rfl) h0
  clear hA0 hval0
  refine (walk a0 l0 k0 W w0).mono fun e W' ⟨he, bel⟩ => ?_
  subst he
  exact ⟨_, rfl, _, _, _, [], _, [], hW', trodAll_mk1 (shut_bool Try.underlying4 _), (trodAll_cons_mk (Below.trod laidOut (by kernel_rfl) (of_decide_eq_true (by kernel_rfl)) h0 bel lt0) trodAll_mk0), rfl, bel.frame _, fun h => by cases h⟩

theorem over_row : Rows.fnWordOkRow.holds Try.pinned (OpenSpec.ofChange Rows.fnWordOkSpec) :=
  OpenClaim.holds_of_wide 5 Try.f5 rfl rfl rfl rfl rfl rfl rfl ⟨rfl, rfl, rfl, rfl, rfl⟩ rfl rfl rfl rfl rfl (by kernel_rfl) Try.func5 (by kernel_rfl)
    (of_decide_eq_true (by kernel_rfl)) (by unfold Func.isWrapper; first | (rw [if_pos (by decide +kernel)]; kernel_rfl) | (rw [if_neg (by decide +kernel)]; exact ⟨rfl, rfl⟩))
    (fun os started H enc _ => lifted os started H enc)

/-- The statement. -/
theorem proved : Rows.FnWordOkSaid := over_row
end Go.Proofs.Ythciikogogkfcaa.fnWordOk
