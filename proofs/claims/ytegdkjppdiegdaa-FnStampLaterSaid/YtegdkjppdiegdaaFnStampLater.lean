/- The next stamp is one later than the latest. Of every input that the given statement lets in. -/
import Derived.Test.YtegdkjppdiegdaaOpen
import Derived.Test.YtegdkjppdiegdaaDraw3
import Derived.Test.YtegdkjppdiegdaaNext
namespace Go.Proofs.Ytegdkjppdiegdaa.fnStampLater
open Go.ChangeShapes Go.WideShapes Go.ChangeAt Go.RowKit
set_option linter.unusedVariables false

set_option maxHeartbeats 400000 in
theorem walk (a0 : Option Addr) (l0 k0 : Nat) (w : World) (w0 : BytesIn w a0 l0 k0) :
    Calls Try.prog 12 #[.slice a0 l0 k0] w fun e w' => e = .returned (.bool true) ∧ Below w.heap.size w w' := by
  by_cases hbig : 1048576 < l0
  · have hbig' : (1048576 : Int) < (l0 : Int) := by omega
    go_enter Try.func12, Try.ntmps12
    go_wp2
    go_ret
    exact ⟨rfl, Below.refl _ _⟩
  · have hbig' : (l0 : Int) ≤ (1048576 : Int) := by omega
    have G0 := Below.refl w.heap.size w
    go_enter Try.func12, Try.ntmps12
    go_wp2_with fail
    refine (DrawStampNext_any _ _ _ _ w0).mono ?_
    rintro e w1 ⟨site, l, a, cap, rfl, hs1, hs2, hl, hbd, hrd, hb1⟩
    have G0 := below_after G0 hb1
    go_wp2_with fail
    refine (stampNext_spec site l a cap _ hrd (by omega)).mono ?_
    rintro e w2 ⟨rfl, hb2⟩
    have hrd := hrd.below hb2
    have G0 := below_after G0 hb2
    go_wp2_with fail
    have B1 := Blk.new w2 #[.int .i64 (nextR site l).1.1, .int .i64 (nextR site l).1.2] 26
    have G0 := below_alloc G0 (.cells #[.int .i64 (nextR site l).1.1, .int .i64 (nextR site l).1.2] 26)
    have hrd := hrd.alloc (.cells #[.int .i64 (nextR site l).1.1, .int .i64 (nextR site l).1.2] 26)
    refine (stampNext_impl site l a cap _ hrd (by omega)).mono ?_
    rintro e w3 ⟨rfl, hb3⟩
    have hrd := hrd.below hb3
    have B1 := B1.below hb3 B1.lt
    have G0 := below_after G0 hb3
    obtain ⟨B1k0, B1k1, B1f, B1l⟩ := B1.two
    by_cases hR : (nextR site l).2 = true
    case neg =>
      have hR' : (nextR site l).2 = false := by simpa using hR
      go_wp2
      go_ret
      exact ⟨rfl, below_alloc G0 _⟩
    have hR1 : okAll l = true ∧ (nextR site l).1.1 = lastT l + 1 := by
      unfold nextR at hR ⊢
      split at hR
      · rename_i h; exact ⟨h.1, by rw [if_pos h]⟩
      · simp at hR
    have HR := Lib.hid hR1.2
    have hok := hR1.1
    have hbdl := lastT_bd l hok
    clear hR1
    go_wp2
    go_loop [9, 10] (fun t i => ∃ k : Nat, k ≤ l.length ∧ i = .int .i64 k ∧ t = .int .i64 (lastT (l.take k))) (fun _ i => l.length - (intOf i).toNat)
    case atStart => exact ⟨0, Nat.zero_le _, rfl, rfl⟩
    case round =>
      obtain ⟨k, hk, rfl, rfl⟩ := hrel
      by_cases hlt : k < l.length
      · have hr' := hrd
        obtain ⟨_, _, h3⟩ := hr'
        obtain ⟨b, off, rfl, hbl, hcell⟩ := h3 (stsC_ne (by omega))
        obtain ⟨g0, g1⟩ := stsC_get l k hlt
        have c0 := hcell _ _ g0
        have elast := lastT_take l k hlt
        have HE := Lib.hid elast
        clear elast hcell g0 g1 h3
        by_cases hm : lastT (l.take k) < l[k].1
        all_goals
          go_wp2
          go_round
          case rel => exact ⟨k + 1, by omega, by go_num, by rw [HE.out]; simp [mx, hm] <;> omega⟩
          case measure => simp [intOf]; omega
      · obtain rfl : k = l.length := by omega
        rw [List.take_length]
        obtain ⟨hb0, hb1'⟩ := hbdl
        go_wp2
        go_ret
        exact ⟨by rw [HR.out]; simp, below_alloc G0 _⟩

set_option maxRecDepth 100000 in
theorem lifted (os : Os) (started : os.Started) (H : Type) (enc : TypeId × Value → H) :
    ReturnsInHanded {} Try.checked os 12 .any (Rows.fnStampLaterSpec.pre6 enc Try.prog Try.f12 Rows.fnStampLaterRow.domain false) (Rows.fnStampLaterSpec.post enc Try.prog Try.f12 false true false false) := by
  refine returnsInHanded_of_change (C := Try.checked) own started (by kernel_rfl) Try.func12
    (ChangeSpec.witness6 (enc := enc) (C := Try.checked) false ⟨#[], #[.slice none 0 0], []⟩ 8 (by kernel_rfl) (by kernel_rfl) (by kernel_rfl) (by kernel_rfl)) ?_
  intro W base args ds gs before hval0 hW hcnd _
  have hval : ∀ (j : Nat) t v, Try.f12.params[j]? = some t → args[j]? = some v → Value.okWide Try.prog W .any base t v := hval0
  have hW' := hW
  obtain ⟨p, q, hA0, hV, rfl, hfz, hnd⟩ := hW
  have hA : DataW.TrodAll enc Try.prog W 0 (fun _ => true) true Try.f12.params.toList args.toList ds p := hA0
  rw [Try.params12] at hA hval
  obtain ⟨v0, vs0, d0, ds0, p0, q0, hargs, rfl, rfl, h0, r0⟩ := trodAll_cons hA
  obtain ⟨rfl, rfl, rfl⟩ := trodAll_nil r0
  obtain rfl : args = #[v0] := by cases args; simp_all
  obtain ⟨rfl, rfl⟩ := trodVars_none hV
  have lt0 : ∀ x ∈ p0, x.block < W.heap.size := by obtain ⟨m, hm⟩ := h0; exact DataW.trod_lt m _ _ _ hm
  obtain ⟨a0, l0, k0, rfl, w0⟩ := bytes_of Try.underlying33 Try.underlying5 (by kernel_rfl) (hval 0 33 v0 rfl rfl) h0
  clear hA0 hval0
  refine (walk a0 l0 k0 W w0).mono fun e W' ⟨he, bel⟩ => ?_
  subst he
  exact ⟨_, rfl, _, _, _, [], _, [], hW', trodAll_mk1 (shut_bool Try.underlying4 _), (trodAll_cons_mk (Below.trod laidOut (by kernel_rfl) (of_decide_eq_true (by kernel_rfl)) h0 bel lt0) trodAll_mk0), rfl, bel.frame _, fun h => by cases h⟩

theorem over_row : Rows.fnStampLaterRow.holds Try.pinned (OpenSpec.ofChange Rows.fnStampLaterSpec) :=
  OpenClaim.holds_of_wide 12 Try.f12 rfl rfl rfl rfl rfl rfl rfl ⟨rfl, rfl, rfl, rfl, rfl⟩ rfl rfl rfl rfl rfl (by kernel_rfl) Try.func12 (by kernel_rfl)
    (of_decide_eq_true (by kernel_rfl)) (by unfold Func.isWrapper; first | (rw [if_pos (by decide +kernel)]; kernel_rfl) | (rw [if_neg (by decide +kernel)]; exact ⟨rfl, rfl⟩))
    (fun os started H enc _ => lifted os started H enc)

/-- The statement. -/
theorem proved : Rows.FnStampLaterSaid := over_row
end Go.Proofs.Ytegdkjppdiegdaa.fnStampLater
