/- Dependencies have no more keys than there are. Of every input that the given statement lets in. -/
import Derived.Test.YtfibddeafddjoaaOpen
import Derived.Test.YtfibddeafddjoaaDrawD2
import Derived.Test.YtfibddeafddjoaaLi
import Derived.Test.YtfibddeafddjoaaDepsN
namespace Go.Proofs.Ytfibddeafddjoaa.fnDepsFew
open Go.ChangeShapes Go.WideShapes Go.ChangeAt Go.RowKit
set_option linter.unusedVariables false

set_option maxHeartbeats 1000000 in
theorem walk (a0 : Option Addr) (l0 k0 : Nat) (a1 : Option Addr) (l1 k1 : Nat) (w : World) (w0 : BytesIn w a0 l0 k0) (w1 : BytesIn w a1 l1 k1) :
    Calls Try.prog 8 #[.slice a0 l0 k0, .slice a1 l1 k1] w fun e w' => e = .returned (.bool true) ∧ Below w.heap.size w w' := by
  by_cases hbig : 1048576 < l0
  · have hbig' : (1048576 : Int) < (l0 : Int) := by omega
    go_enter Try.func8, Try.ntmps8
    go_wp2
    go_ret
    exact ⟨rfl, Below.refl _ _⟩
  · have hbig' : (l0 : Int) ≤ (1048576 : Int) := by omega
    by_cases hbih : 1048576 < l1
    · have hbih' : (1048576 : Int) < (l1 : Int) := by omega
      go_enter Try.func8, Try.ntmps8
      go_wp2
      go_ret
      exact ⟨rfl, Below.refl _ _⟩
    · have hbih' : (l1 : Int) ≤ (1048576 : Int) := by omega
      have wx := w1
      clear w1
      go_enter Try.func8, Try.ntmps8
      go_wp2_with fail
      refine (DrawDepsPut_any _ _ _ _ w0).mono ?_
      rintro e w1 ⟨la, pa, ca, d, rfl, hla, rdla, hb1⟩
      have G0 := hb1
      have BD := Blk.new w1 #[.int .i64 d.1, .int .i64 d.2.1, .int .i64 d.2.2] 38
      have hbBD := below_box w1 (.cells #[.int .i64 d.1, .int .i64 d.2.1, .int .i64 d.2.2] 38)
      have G0 := below_after G0 hbBD
      have rdla := rdla.below hbBD
      obtain ⟨BD0, BD1, BD2, BDf, BDl⟩ := BD.three
      go_wp2_with fail
      have sz3 := G0.size
      refine (DepsPut_impl la d pa ca _ rdla (by omega)).mono ?_
      rintro e w3 ⟨v3, rfl, own3, hb3⟩
      obtain ⟨p3, c3, rfl, rd3⟩ := Reads.of_owns own3
      have BD := BD.below hb3 BD.lt
      have G0 := below_after G0 hb3
      have rdla := rdla.below hb3
      have first3 := own3
      have ls3 := hb3.size
      obtain ⟨BD0, BD1, BD2, BDf, BDl⟩ := BD.three
      go_wp2_with fail
      have sz4 := G0.size
      refine (DepsPut_spec la d pa ca _ rdla (by omega)).mono ?_
      rintro e w4 ⟨v4, rfl, own4, hb4⟩
      obtain ⟨p4, c4, rfl, rd4⟩ := Reads.of_owns own4
      have own3 := own_below own3 hb4
      have BD := BD.below hb4 BD.lt
      have G0 := below_after G0 hb4
      have rdla := rdla.below hb4
      have first4 := own4
      have ls4 := hb4.size
      go_wp2_with fail
      refine (liDeps_same (putR la d) p3 p4 c3 c4 _ (Reads.own own3) (Reads.own own4)).mono ?_
      rintro e w5 ⟨rfl, hb5⟩
      have own3 := own_below own3 hb5
      have own4 := own_below own4 hb5
      have BD := BD.below hb5 BD.lt
      have G0 := below_after G0 hb5
      have rdla := rdla.below hb5
      have ls5 := hb5.size
      have hf0 := FewSt.start (l := la) (d := d)
      have own3 := own_base own3 (sz3)
      have hm0 : (0 : Int) ≤ (l1 : Int) % 9 := by omega
      have hm1 : (l1 : Int) % 9 ≤ 8 := by omega
      go_wp2
      go_loopw [7, 8] (fun v i wr => ∃ (k : Nat) (x : List Dp), k ≤ 6 ∧ i = .int .i64 k ∧ FewSt k x ∧ wr.ownsRow w.heap.size 38 3 v x.length (dpsC x) ∧ Below w.heap.size w wr) (fun _ i _ => 6 - (intOf i).toNat)
      case atStart => exact ⟨0, _, by omega, rfl, hf0, own3, G0⟩
      case round =>
        obtain ⟨k, x, hk, rfl, hst, own, G0⟩ := hrel
        have hlen := hst.len
        obtain ⟨p, c, rfl, rd⟩ := Reads.of_owns own
        by_cases hx : 0 < x.length
        · have hx0 : ((x.length : Int) == 0) = false := by simp only [beq_eq_false_iff_ne, ne_eq]; omega
          by_cases hlt : k < 6
          · have HS := Lib.hid (hst.step hx hlt hm0 hm1)
            clear hst
            have sz := G0.size
            go_wp2_with fail
            refine (DepsPut_impl x ((k : Int), 1 + (l1 : Int) % 9, 0) p c _ rd (by omega)).mono ?_
            rintro e w6 ⟨v6, rfl, own6, hb6⟩
            have own6 := own_base own6 sz
            have G0 := below_after G0 hb6
            go_wp2
            go_roundw
            case rel => exact ⟨k + 1, _, by omega, by go_num, HS.out, own6, G0⟩
            case measure => simp [intOf]; omega
          · obtain rfl : k = 6 := by omega
            obtain ⟨h6, ho⟩ := hst.done hx
            have h6' : ((x.length : Int) == 6) = true := by simp only [beq_iff_eq]; omega
            clear hst
            have HL := Lib.hid h6
            clear h6
            go_wp2_with fail
            refine (depsOk_impl x p c _ rd (by omega)).mono ?_
            rintro e w6 ⟨rfl, hb6⟩
            have G0 := below_after G0 hb6
            go_wp2
            go_ret
            exact ⟨rfl, G0⟩
        · obtain rfl : x = [] := List.eq_nil_of_length_eq_zero (by omega)
          clear hst
          go_wp2
          all_goals
            go_ret
            exact ⟨rfl, G0⟩


set_option maxRecDepth 100000 in
theorem lifted (os : Os) (started : os.Started) (H : Type) (enc : TypeId × Value → H) :
    ReturnsInHanded {} Try.checked os 8 .any (Rows.fnDepsFewSpec.pre6 enc Try.prog Try.f8 Rows.fnDepsFewRow.domain false) (Rows.fnDepsFewSpec.post enc Try.prog Try.f8 false true false false) := by
  refine returnsInHanded_of_change (C := Try.checked) own started (by kernel_rfl) Try.func8
    (ChangeSpec.witness6 (enc := enc) (C := Try.checked) false ⟨#[], #[.slice none 0 0, .slice none 0 0], []⟩ 8 (by kernel_rfl) (by kernel_rfl) (by kernel_rfl) (by kernel_rfl)) ?_
  intro W base args ds gs before hval0 hW hcnd _
  have hval : ∀ (j : Nat) t v, Try.f8.params[j]? = some t → args[j]? = some v → Value.okWide Try.prog W .any base t v := hval0
  have hW' := hW
  obtain ⟨p, q, hA0, hV, rfl, hfz, hnd⟩ := hW
  have hA : DataW.TrodAll enc Try.prog W 0 (fun _ => true) true Try.f8.params.toList args.toList ds p := hA0
  rw [Try.params8] at hA hval
  obtain ⟨v0, vs0, d0, ds0, p0, q0, hargs, rfl, rfl, h0, r0⟩ := trodAll_cons hA
  obtain ⟨v1, vs1, d1, ds1, p1, q1, rfl, rfl, rfl, h1, r1⟩ := trodAll_cons r0
  obtain ⟨rfl, rfl, rfl⟩ := trodAll_nil r1
  obtain rfl : args = #[v0, v1] := by cases args; simp_all
  obtain ⟨rfl, rfl⟩ := trodVars_none hV
  have lt0 : ∀ x ∈ p0, x.block < W.heap.size := by obtain ⟨m, hm⟩ := h0; exact DataW.trod_lt m _ _ _ hm
  obtain ⟨a0, l0, k0, rfl, w0⟩ := bytes_of Try.underlying34 Try.underlying5 (by kernel_rfl) (hval 0 34 v0 rfl rfl) h0
  have lt1 : ∀ x ∈ p1, x.block < W.heap.size := by obtain ⟨m, hm⟩ := h1; exact DataW.trod_lt m _ _ _ hm
  obtain ⟨a1, l1, k1, rfl, w1⟩ := bytes_of Try.underlying34 Try.underlying5 (by kernel_rfl) (hval 1 34 v1 rfl rfl) h1
  clear hA0 hval0
  refine (walk a0 l0 k0 a1 l1 k1 W w0 w1).mono fun e W' ⟨he, bel⟩ => ?_
  subst he
  exact ⟨_, rfl, _, _, _, [], _, [], hW', trodAll_mk1 (shut_bool Try.underlying4 _), (trodAll_cons_mk (Below.trod laidOut (by kernel_rfl) (of_decide_eq_true (by kernel_rfl)) h0 bel lt0) (trodAll_cons_mk (Below.trod laidOut (by kernel_rfl) (of_decide_eq_true (by kernel_rfl)) h1 bel lt1) trodAll_mk0)), rfl, bel.frame _, fun h => by cases h⟩

theorem over_row : Rows.fnDepsFewRow.holds Try.pinned (OpenSpec.ofChange Rows.fnDepsFewSpec) :=
  OpenClaim.holds_of_wide 8 Try.f8 rfl rfl rfl rfl rfl rfl rfl ⟨rfl, rfl, rfl, rfl, rfl⟩ rfl rfl rfl rfl rfl (by kernel_rfl) Try.func8 (by kernel_rfl)
    (of_decide_eq_true (by kernel_rfl)) (by unfold Func.isWrapper; first | (rw [if_pos (by decide +kernel)]; kernel_rfl) | (rw [if_neg (by decide +kernel)]; exact ⟨rfl, rfl⟩))
    (fun os started H enc _ => lifted os started H enc)

/-- The statement. -/
theorem proved : Rows.FnDepsFewSaid := over_row
end Go.Proofs.Ytfibddeafddjoaa.fnDepsFew
