/- What is told of a key among dependencies is there. Of every input that the given statement lets in. -/
import Derived.Test.YtfibddeafddjoaaOpen
import Derived.Test.YtfibddeafddjoaaDrawD2
import Derived.Test.YtfibddeafddjoaaLi
import Derived.Test.YtfibddeafddjoaaDepsN
namespace Go.Proofs.Ytfibddeafddjoaa.fnDepsAt
open Go.ChangeShapes Go.WideShapes Go.ChangeAt Go.RowKit
set_option linter.unusedVariables false

set_option maxHeartbeats 2000000 in
theorem walk (a0 : Option Addr) (l0 k0 : Nat) (w : World) (w0 : BytesIn w a0 l0 k0) :
    Calls Try.prog 5 #[.slice a0 l0 k0] w fun e w' => e = .returned (.bool true) ∧ Below w.heap.size w w' := by
  by_cases hbig : 1048576 < l0
  · have hbig' : (1048576 : Int) < (l0 : Int) := by omega
    go_enter Try.func5, Try.ntmps5
    go_wp2
    go_ret
    exact ⟨rfl, Below.refl _ _⟩
  · have hbig' : (l0 : Int) ≤ (1048576 : Int) := by omega
    go_enter Try.func5, Try.ntmps5
    go_wp2_with fail
    refine (DrawDepsAt_any _ _ _ _ w0).mono ?_
    rintro e w1 ⟨la, pa, ca, key, rfl, hla, rdla, hb1⟩
    have G0 := hb1
    go_wp2_with fail
    refine (DepsAt_spec la key pa ca _ rdla (by omega)).mono ?_
    rintro e w2 ⟨rfl, hb2⟩
    have G0 := below_after G0 hb2
    have rdla := rdla.below hb2
    have ls2 := hb2.size
    have SW := Blk.new w2 #[.int .i64 (atR la key).1, .int .i64 (atR la key).2] 30
    have hbSW := below_box w2 (.cells #[.int .i64 (atR la key).1, .int .i64 (atR la key).2] 30)
    have G0 := below_after G0 hbSW
    have rdla := rdla.below hbSW
    go_wp2_with fail
    refine (DepsAt_impl la key pa ca _ rdla (by omega)).mono ?_
    rintro e w3 ⟨rfl, hb3⟩
    have SW := SW.below hb3 SW.lt
    have G0 := below_after G0 hb3
    have rdla := rdla.below hb3
    have ls3 := hb3.size
    have SI := Blk.new w3 #[.int .i64 (atR la key).1, .int .i64 (atR la key).2] 30
    have hbSI := below_box w3 (.cells #[.int .i64 (atR la key).1, .int .i64 (atR la key).2] 30)
    have SW := SW.alloc (.cells #[.int .i64 (atR la key).1, .int .i64 (atR la key).2] 30)
    have G0 := below_after G0 hbSI
    have rdla := rdla.below hbSI
    obtain ⟨SW0, SW1, SWf, SWl⟩ := SW.two
    obtain ⟨SI0, SI1, SIf, SIl⟩ := SI.two
    go_wp2_with fail
    refine (depsOk_spec la pa ca _ rdla (by omega)).mono ?_
    rintro e w4 ⟨rfl, hb4⟩
    have SW := SW.below hb4 SW.lt
    have SI := SI.below hb4 SI.lt
    have G0 := below_after G0 hb4
    have rdla := rdla.below hb4
    have ls4 := hb4.size
    rcases hoa : depsOkB la with _ | _
    · skip
      obtain ⟨SW0, SW1, SWf, SWl⟩ := SW.two
      obtain ⟨SI0, SI1, SIf, SIl⟩ := SI.two
      go_wp2
      go_ret
      exact ⟨rfl, G0⟩
    have HF := Lib.hid (there_iff hoa key)
    obtain ⟨SW0, SW1, SWf, SWl⟩ := SW.two
    obtain ⟨SI0, SI1, SIf, SIl⟩ := SI.two
    obtain ⟨s, hs⟩ : ∃ s, s = atR la key := ⟨_, rfl⟩
    rw [← hs] at HF SW SI SW0 SW1 SI0 SI1 ⊢
    clear hs
    have wf := SI.lt
    go_wp2
    go_loopw [7, 8] (fun t i wr => ∃ k : Nat, k ≤ la.length ∧ i = .int .i64 k ∧ t = .bool (thereB (la.take k) key s) ∧ Below w4.heap.size w4 wr) (fun _ i _ => la.length - (intOf i).toNat)
    case atStart => exact ⟨0, Nat.zero_le _, rfl, rfl, Below.refl _ _⟩
    case round =>
      obtain ⟨k, hk, rfl, rfl, HB⟩ := hrel
      have SI := SI.below HB SI.lt
      have rdla := rdla.below HB
      obtain ⟨SI0, SI1, SIf, SIl⟩ := SI.two
      have G0 := below_after G0 HB
      by_cases hlt : k < la.length
      · obtain ⟨_, _, h3⟩ := rdla
        obtain ⟨b, off, rfl, hbl, hcell⟩ := h3 (dpsC_ne (by omega))
        obtain ⟨g0, g1, g2⟩ := dpsC_get la k hlt
        have c0 := hcell _ _ g0
        have c1 := hcell _ _ g1
        have c2 := hcell _ _ g2
        rw [← Nat.add_assoc] at c1 c2
        have HT := Lib.hid (thereB_take la key s k hlt)
        have hi0 : (0 : Int) ≤ (k : Int) := by omega
        have hi1 : (k : Int) < (la.length : Int) := by omega
        clear hcell h3 g0 g1 g2
        cases hth : thereB (la.take k) key s with
        | true =>
          have HN : Hid (thereB (la.take (k + 1)) key s = true) := by show _ = _; rw [HT.out, hth, Bool.true_or]
          go_wp2
          refine region_over (by kernel_rfl) (by kernel_rfl) ?_
          repeat (go_big_quiet_step (fail))
          refine wpQuiet_nil ?_
          intro w5 hb5
          go_wp2
          go_roundw
          case rel => exact ⟨k + 1, by omega, by go_num, by rw [HN.out], below_after HB hb5⟩
          case measure => simp [intOf]; omega
        | false =>
          by_cases hkey : la[k].1 = key
          · have hk1 : (la[k].1 == key) = true := by simpa using hkey
            by_cases hst : la[k].2 = s
            · have h1 : (la[k].2.1 == s.1) = true := by simp [hst]
              have h2 : (la[k].2.2 == s.2) = true := by simp [hst]
              have HN : Hid (thereB (la.take (k + 1)) key s = true) := by show _ = _; rw [HT.out, hth, decide_eq_true hkey, decide_eq_true hst]; rfl
              clear hkey hst
              go_wp2
              refine region_over (by kernel_rfl) (by kernel_rfl) ?_
              repeat (go_big_quiet_step (fail))
              refine wpQuiet_nil ?_
              intro w5 hb5
              go_wp2
              go_roundw
              case rel => exact ⟨k + 1, by omega, by go_num, by rw [HN.out], below_after HB hb5⟩
              case measure => simp [intOf]; omega
            · have HN : Hid (thereB (la.take (k + 1)) key s = false) := by show _ = _; rw [HT.out, hth, decide_eq_true hkey, decide_eq_false hst]; rfl
              by_cases ht : la[k].2.1 = s.1
              · have h1 : (la[k].2.1 == s.1) = true := by simpa using ht
                have h2 : (la[k].2.2 == s.2) = false := by
                  simp only [beq_eq_false_iff_ne, ne_eq]; intro h; exact hst (Prod.ext ht h)
                clear hkey hst ht
                go_wp2
                refine region_over (by kernel_rfl) (by kernel_rfl) ?_
                repeat (go_big_quiet_step (fail))
                refine wpQuiet_nil ?_
                intro w5 hb5
                go_wp2
                go_roundw
                case rel => exact ⟨k + 1, by omega, by go_num, by rw [HN.out], below_after HB hb5⟩
                case measure => simp [intOf]; omega
              · have h1 : (la[k].2.1 == s.1) = false := by simpa using ht
                clear hkey hst ht
                go_wp2
                refine region_over (by kernel_rfl) (by kernel_rfl) ?_
                repeat (go_big_quiet_step (fail))
                refine wpQuiet_nil ?_
                intro w5 hb5
                go_wp2
                go_roundw
                case rel => exact ⟨k + 1, by omega, by go_num, by rw [HN.out], below_after HB hb5⟩
                case measure => simp [intOf]; omega
          · have hk1 : (la[k].1 == key) = false := by simpa using hkey
            have HN : Hid (thereB (la.take (k + 1)) key s = false) := by show _ = _; rw [HT.out, hth, decide_eq_false hkey]; rfl
            clear hkey
            go_wp2
            refine region_over (by kernel_rfl) (by kernel_rfl) ?_
            repeat (go_big_quiet_step (fail))
            refine wpQuiet_nil ?_
            intro w5 hb5
            go_wp2
            go_roundw
            case rel => exact ⟨k + 1, by omega, by go_num, by rw [HN.out], below_after HB hb5⟩
            case measure => simp [intOf]; omega
      · obtain rfl : k = la.length := by omega
        rw [List.take_length]
        have hf := HF.out
        by_cases hz : s = (0, 0)
        · have hf1 : thereB la key s = false := by rw [hf, decide_eq_true hz]; rfl
          clear hf
          obtain ⟨s1, s2⟩ := s
          simp only [Prod.mk.injEq] at hz
          obtain ⟨rfl, rfl⟩ := hz
          go_wp2
          go_ret
          exact ⟨rfl, G0⟩
        · have hf1 : thereB la key s = true := by rw [hf, decide_eq_false hz]; rfl
          clear hf
          by_cases h1 : s.1 = 0
          · have h2 : (s.2 == 0) = false := by simp only [beq_eq_false_iff_ne, ne_eq]; intro h; exact hz (Prod.ext h1 h)
            have h1' : (s.1 == 0) = true := by simpa using h1
            clear hz h1
            go_wp2
            go_ret
            exact ⟨rfl, G0⟩
          · have h1' : (s.1 == 0) = false := by simpa using h1
            clear hz h1
            go_wp2
            go_ret
            exact ⟨rfl, G0⟩

set_option maxRecDepth 100000 in
theorem lifted (os : Os) (started : os.Started) (H : Type) (enc : TypeId × Value → H) :
    ReturnsInHanded {} Try.checked os 5 .any (Rows.fnDepsAtSpec.pre6 enc Try.prog Try.f5 Rows.fnDepsAtRow.domain false) (Rows.fnDepsAtSpec.post enc Try.prog Try.f5 false true false false) := by
  refine returnsInHanded_of_change (C := Try.checked) own started (by kernel_rfl) Try.func5
    (ChangeSpec.witness6 (enc := enc) (C := Try.checked) false ⟨#[], #[.slice none 0 0], []⟩ 8 (by kernel_rfl) (by kernel_rfl) (by kernel_rfl) (by kernel_rfl)) ?_
  intro W base args ds gs before hval0 hW hcnd _
  have hval : ∀ (j : Nat) t v, Try.f5.params[j]? = some t → args[j]? = some v → Value.okWide Try.prog W .any base t v := hval0
  have hW' := hW
  obtain ⟨p, q, hA0, hV, rfl, hfz, hnd⟩ := hW
  have hA : DataW.TrodAll enc Try.prog W 0 (fun _ => true) true Try.f5.params.toList args.toList ds p := hA0
  rw [Try.params5] at hA hval
  obtain ⟨v0, vs0, d0, ds0, p0, q0, hargs, rfl, rfl, h0, r0⟩ := trodAll_cons hA
  obtain ⟨rfl, rfl, rfl⟩ := trodAll_nil r0
  obtain rfl : args = #[v0] := by cases args; simp_all
  obtain ⟨rfl, rfl⟩ := trodVars_none hV
  have lt0 : ∀ x ∈ p0, x.block < W.heap.size := by obtain ⟨m, hm⟩ := h0; exact DataW.trod_lt m _ _ _ hm
  obtain ⟨a0, l0, k0, rfl, w0⟩ := bytes_of Try.underlying34 Try.underlying5 (by kernel_rfl) (hval 0 34 v0 rfl rfl) h0
  clear hA0 hval0
  refine (walk a0 l0 k0 W w0).mono fun e W' ⟨he, bel⟩ => ?_
  subst he
  exact ⟨_, rfl, _, _, _, [], _, [], hW', trodAll_mk1 (shut_bool Try.underlying4 _), (trodAll_cons_mk (Below.trod laidOut (by kernel_rfl) (of_decide_eq_true (by kernel_rfl)) h0 bel lt0) trodAll_mk0), rfl, bel.frame _, fun h => by cases h⟩

theorem over_row : Rows.fnDepsAtRow.holds Try.pinned (OpenSpec.ofChange Rows.fnDepsAtSpec) :=
  OpenClaim.holds_of_wide 5 Try.f5 rfl rfl rfl rfl rfl rfl rfl ⟨rfl, rfl, rfl, rfl, rfl⟩ rfl rfl rfl rfl rfl (by kernel_rfl) Try.func5 (by kernel_rfl)
    (of_decide_eq_true (by kernel_rfl)) (by unfold Func.isWrapper; first | (rw [if_pos (by decide +kernel)]; kernel_rfl) | (rw [if_neg (by decide +kernel)]; exact ⟨rfl, rfl⟩))
    (fun os started H enc _ => lifted os started H enc)

/-- The statement. -/
theorem proved : Rows.FnDepsAtSaid := over_row
end Go.Proofs.Ytfibddeafddjoaa.fnDepsAt
