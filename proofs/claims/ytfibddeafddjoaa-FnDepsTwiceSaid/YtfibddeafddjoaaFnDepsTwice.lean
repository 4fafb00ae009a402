/- Dependencies that are put twice are put once. Of every input that the given statement lets in. -/
import Derived.Test.YtfibddeafddjoaaOpen
import Derived.Test.YtfibddeafddjoaaDrawD2
import Derived.Test.YtfibddeafddjoaaLi
import Derived.Test.YtfibddeafddjoaaDepsN
namespace Go.Proofs.Ytfibddeafddjoaa.fnDepsTwice
open Go.ChangeShapes Go.WideShapes Go.ChangeAt Go.RowKit
set_option linter.unusedVariables false

set_option maxHeartbeats 2000000 in
theorem walk (a0 : Option Addr) (l0 k0 : Nat) (a1 : Option Addr) (l1 k1 : Nat) (w : World) (w0 : BytesIn w a0 l0 k0) (w1 : BytesIn w a1 l1 k1) :
    Calls Try.prog 9 #[.slice a0 l0 k0, .slice a1 l1 k1] w fun e w' => e = .returned (.bool true) ∧ Below w.heap.size w w' := by
  by_cases hbig : 1048576 < l0
  · have hbig' : (1048576 : Int) < (l0 : Int) := by omega
    go_enter Try.func9, Try.ntmps9
    go_wp2
    go_ret
    exact ⟨rfl, Below.refl _ _⟩
  · have hbig' : (l0 : Int) ≤ (1048576 : Int) := by omega
    by_cases hbih : 1048576 < l1
    · have hbih' : (1048576 : Int) < (l1 : Int) := by omega
      go_enter Try.func9, Try.ntmps9
      go_wp2
      go_ret
      exact ⟨rfl, Below.refl _ _⟩
    · have hbih' : (l1 : Int) ≤ (1048576 : Int) := by omega
      have wx := w1
      clear w1
      go_enter Try.func9, Try.ntmps9
      go_wp2_with fail
      refine (DrawDepsPut_any _ _ _ _ w0).mono ?_
      rintro e w1 ⟨la, pa, ca, d, rfl, hla, rdla, hb1⟩
      have G0 := hb1
      have BD := Blk.new w1 #[.int .i64 d.1, .int .i64 d.2.1, .int .i64 d.2.2] 38
      have hbBD := below_box w1 (.cells #[.int .i64 d.1, .int .i64 d.2.1, .int .i64 d.2.2] 38)
      have G0 := below_after G0 hbBD
      have rdla := rdla.below hbBD
      go_wp2_with fail
      refine (DrawDepsPut_any _ _ _ _ (wx.below G0)).mono ?_
      rintro e w2 ⟨lb, pb, cb, q, rfl, hlb, rdlb, hb2⟩
      have BD := BD.below hb2 BD.lt
      have G0 := below_after G0 hb2
      have rdla := rdla.below hb2
      have BQ := Blk.new w2 #[.int .i64 q.1, .int .i64 q.2.1, .int .i64 q.2.2] 38
      have hbBQ := below_box w2 (.cells #[.int .i64 q.1, .int .i64 q.2.1, .int .i64 q.2.2] 38)
      have BD := BD.alloc (.cells #[.int .i64 q.1, .int .i64 q.2.1, .int .i64 q.2.2] 38)
      have G0 := below_after G0 hbBQ
      have rdla := rdla.below hbBQ
      have rdlb := rdlb.below hbBQ
      obtain ⟨BD0, BD1, BD2, BDf, BDl⟩ := BD.three
      obtain ⟨BQ0, BQ1, BQ2, BQf, BQl⟩ := BQ.three
      go_wp2_with fail
      have sz3 := G0.size
      refine (DepsPut_impl la d pa ca _ rdla (by omega)).mono ?_
      rintro e w3 ⟨v3, rfl, own3, hb3⟩
      obtain ⟨p3, c3, rfl, rd3⟩ := Reads.of_owns own3
      have BD := BD.below hb3 BD.lt
      have BQ := BQ.below hb3 BQ.lt
      have G0 := below_after G0 hb3
      have rdla := rdla.below hb3
      have rdlb := rdlb.below hb3
      have first3 := own3
      have ls3 := hb3.size
      obtain ⟨BD0, BD1, BD2, BDf, BDl⟩ := BD.three
      obtain ⟨BQ0, BQ1, BQ2, BQf, BQl⟩ := BQ.three
      go_wp2_with fail
      have sz4 := G0.size
      refine (DepsPut_spec la d pa ca _ rdla (by omega)).mono ?_
      rintro e w4 ⟨v4, rfl, own4, hb4⟩
      obtain ⟨p4, c4, rfl, rd4⟩ := Reads.of_owns own4
      have own3 := own_below own3 hb4
      have BD := BD.below hb4 BD.lt
      have BQ := BQ.below hb4 BQ.lt
      have G0 := below_after G0 hb4
      have rdla := rdla.below hb4
      have rdlb := rdlb.below hb4
      have first4 := own4
      have ls4 := hb4.size
      go_wp2_with fail
      refine (liDeps_same (putR la d) p3 p4 c3 c4 _ (Reads.own own3) (Reads.own own4)).mono ?_
      rintro e w5 ⟨rfl, hb5⟩
      have own3 := own_below own3 hb5
      have own4 := own_below own4 hb5
      have BD := BD.below hb5 BD.lt
      have BQ := BQ.below hb5 BQ.lt
      have G0 := below_after G0 hb5
      have rdla := rdla.below hb5
      have rdlb := rdlb.below hb5
      have ls5 := hb5.size
      rcases hoa : depsOkB la with _ | _
      · have HR := Lib.hid (putR_bad1 (d := d) hoa)
        rw [HR.out] at own3 own4 ⊢
        obtain ⟨BD0, BD1, BD2, BDf, BDl⟩ := BD.three
        obtain ⟨BQ0, BQ1, BQ2, BQf, BQl⟩ := BQ.three
        go_wp2_with fail
        have sz6 := G0.size
        refine (DepsPut_spec la d pa ca _ rdla (by omega)).mono ?_
        rintro e w6 ⟨v6, rfl, own6, hb6⟩
        obtain ⟨p6, c6, rfl, rd6⟩ := Reads.of_owns own6
        have own3 := own_below own3 hb6
        have own4 := own_below own4 hb6
        have BD := BD.below hb6 BD.lt
        have BQ := BQ.below hb6 BQ.lt
        have G0 := below_after G0 hb6
        have rdla := rdla.below hb6
        have rdlb := rdlb.below hb6
        have first6 := own6
        have ls6 := hb6.size
        rw [HR.out] at own6 ⊢
        go_wp2_with fail
        refine (liDeps_same [] p3 p6 c3 c6 _ (Reads.own own3) (Reads.own own6)).mono ?_
        rintro e w7 ⟨rfl, hb7⟩
        have own3 := own_below own3 hb7
        have own4 := own_below own4 hb7
        have own6 := own_below own6 hb7
        have BD := BD.below hb7 BD.lt
        have BQ := BQ.below hb7 BQ.lt
        have G0 := below_after G0 hb7
        have rdla := rdla.below hb7
        have rdlb := rdlb.below hb7
        have ls7 := hb7.size
        go_wp2
        go_ret
        exact ⟨rfl, G0⟩
      have HA := Lib.hid hoa
      rcases hod : dpOk d with _ | _
      · have HR := Lib.hid (putR_bad2 (l := la) hod)
        rw [HR.out] at own3 own4 ⊢
        obtain ⟨BD0, BD1, BD2, BDf, BDl⟩ := BD.three
        obtain ⟨BQ0, BQ1, BQ2, BQf, BQl⟩ := BQ.three
        go_wp2_with fail
        have sz6 := G0.size
        refine (DepsPut_spec la d pa ca _ rdla (by omega)).mono ?_
        rintro e w6 ⟨v6, rfl, own6, hb6⟩
        obtain ⟨p6, c6, rfl, rd6⟩ := Reads.of_owns own6
        have own3 := own_below own3 hb6
        have own4 := own_below own4 hb6
        have BD := BD.below hb6 BD.lt
        have BQ := BQ.below hb6 BQ.lt
        have G0 := below_after G0 hb6
        have rdla := rdla.below hb6
        have rdlb := rdlb.below hb6
        have first6 := own6
        have ls6 := hb6.size
        rw [HR.out] at own6 ⊢
        go_wp2_with fail
        refine (liDeps_same [] p3 p6 c3 c6 _ (Reads.own own3) (Reads.own own6)).mono ?_
        rintro e w7 ⟨rfl, hb7⟩
        have own3 := own_below own3 hb7
        have own4 := own_below own4 hb7
        have own6 := own_below own6 hb7
        have BD := BD.below hb7 BD.lt
        have BQ := BQ.below hb7 BQ.lt
        have G0 := below_after G0 hb7
        have rdla := rdla.below hb7
        have rdlb := rdlb.below hb7
        have ls7 := hb7.size
        go_wp2
        go_ret
        exact ⟨rfl, G0⟩
      have HO := Lib.hid hod
      have hpos := putR_ne hoa hod
      have hln := putR_len la d
      have hlm := putR_len la q
      have hne0 : (((putR la d).length : Int) == 0) = false := by simp only [beq_eq_false_iff_ne, ne_eq]; omega
      have HT := Lib.hid (putR_twice hoa hod)
      have HC : Hid (dpOk q = true → putR (putR la q) d = putR (putR la d) q) := fun hq => putR_comm hoa hod hq
      clear hoa hod hpos
      obtain ⟨BD0, BD1, BD2, BDf, BDl⟩ := BD.three
      obtain ⟨BQ0, BQ1, BQ2, BQf, BQl⟩ := BQ.three
      go_wp2_with fail
      have sz6 := G0.size
      refine (DepsPut_impl (putR la d) q p3 c3 _ (Reads.own own3) (by omega)).mono ?_
      rintro e w6 ⟨v6, rfl, own6, hb6⟩
      obtain ⟨p6, c6, rfl, rd6⟩ := Reads.of_owns own6
      have own3 := own_below own3 hb6
      have own4 := own_below own4 hb6
      have BD := BD.below hb6 BD.lt
      have BQ := BQ.below hb6 BQ.lt
      have G0 := below_after G0 hb6
      have rdla := rdla.below hb6
      have rdlb := rdlb.below hb6
      have first6 := own6
      have ls6 := hb6.size
      go_wp2_with fail
      have hbd := (Below.refl w6.heap.size w6).drew
      have own3 := own_below own3 hbd
      have own4 := own_below own4 hbd
      have own6 := own_below own6 hbd
      have BD := BD.below hbd BD.lt
      have BQ := BQ.below hbd BQ.lt
      have G0 := below_after G0 hbd
      have rdla := rdla.below hbd
      have rdlb := rdlb.below hbd
      have zq := BQ.lt
      have zd := BD.lt
      go_region_held3 (fun W => W.cell? ⟨w1.heap.size, 0, none⟩ = some (.int .i64 d.1) ∧ W.cell? ⟨w1.heap.size, 1, none⟩ = some (.int .i64 d.2.1) ∧ W.cell? ⟨w1.heap.size, 2, none⟩ = some (.int .i64 d.2.2) ∧ W.cell? ⟨w2.heap.size, 0, none⟩ = some (.int .i64 q.1) ∧ W.cell? ⟨w2.heap.size, 1, none⟩ = some (.int .i64 q.2.1) ∧ W.cell? ⟨w2.heap.size, 2, none⟩ = some (.int .i64 q.2.2)) (exact ⟨BD.three.1, BD.three.2.1, BD.three.2.2.1, BQ.three.1, BQ.three.2.1, BQ.three.2.2.1⟩) (first | (go_at_call 32; (with_reducible refine (DepsPut_impl la q pa ca _ rdla (by omega)).mono ?_); rintro e w7 ⟨v7, rfl, own7, hb⟩; have own3 := own_below own3 hb; have own4 := own_below own4 hb; have own6 := own_below own6 hb; have rdla := rdla.below hb; have rdlb := rdlb.below hb; have BD := BD.below hb BD.lt; have BQ := BQ.below hb BQ.lt; have G0 := below_after G0 hb; obtain ⟨p7, c7, rfl, rd7⟩ := Reads.of_owns own7) | (go_at_call 32; (with_reducible refine (DepsPut_impl (putR la q) d p7 c7 _ rd7 (by omega)).mono ?_); rintro e w8 ⟨v8, rfl, own8, hb⟩; have own3 := own_below own3 hb; have own4 := own_below own4 hb; have own6 := own_below own6 hb; have rdla := rdla.below hb; have rdlb := rdlb.below hb; have BD := BD.below hb BD.lt; have BQ := BQ.below hb BQ.lt; have G0 := below_after G0 hb; obtain ⟨p8, c8, rfl, rd8⟩ := Reads.of_owns own8))
      obtain ⟨BD0, BD1, BD2, BDf, BDl⟩ := BD.three
      obtain ⟨BQ0, BQ1, BQ2, BQf, BQl⟩ := BQ.three
      go_wp2_with fail
      have sz9 := G0.size
      refine (DepsPut_impl (putR la d) d p3 c3 _ (Reads.own own3) (by omega)).mono ?_
      rintro e w9 ⟨v9, rfl, own9, hb9⟩
      obtain ⟨p9, c9, rfl, rd9⟩ := Reads.of_owns own9
      have own3 := own_below own3 hb9
      have own4 := own_below own4 hb9
      have own6 := own_below own6 hb9
      have own8 := own_below own8 hb9
      have BD := BD.below hb9 BD.lt
      have BQ := BQ.below hb9 BQ.lt
      have G0 := below_after G0 hb9
      have rdla := rdla.below hb9
      have rdlb := rdlb.below hb9
      have first9 := own9
      have ls9 := hb9.size
      rw [HT.out] at own9
      go_wp2_with fail
      rw [HT.out]
      refine (liDeps_same (putR la d) p9 p3 c9 c3 _ (Reads.own own9) (Reads.own own3)).mono ?_
      rintro e w10 ⟨rfl, hb10⟩
      have own3 := own_below own3 hb10
      have own4 := own_below own4 hb10
      have own6 := own_below own6 hb10
      have own8 := own_below own8 hb10
      have own9 := own_below own9 hb10
      have BD := BD.below hb10 BD.lt
      have BQ := BQ.below hb10 BQ.lt
      have G0 := below_after G0 hb10
      have rdla := rdla.below hb10
      have rdlb := rdlb.below hb10
      have ls10 := hb10.size
      rcases hoq : dpOk q with _ | _
      · skip
        have HR := Lib.hid (putR_bad2 (l := putR la d) hoq)
        rw [HR.out] at own6
        rw [HR.out]
        go_wp2
        go_ret
        exact ⟨rfl, G0⟩
      · skip
        have HR := Lib.hid (HC.out hoq)
        have hne1 : (((putR (putR la d) q).length : Int) == 0) = false := by
          have := putR_ne (l := putR la d) (d := q) (putR_okB HA.out HO.out) hoq
          simp only [beq_eq_false_iff_ne, ne_eq]; omega
        rw [HR.out] at own8
        rw [HR.out]
        go_wp2_with fail
        refine (liDeps_same (putR (putR la d) q) p6 p8 c6 c8 _ (Reads.own own6) (Reads.own own8)).mono ?_
        rintro e w11 ⟨rfl, hb11⟩
        have own3 := own_below own3 hb11
        have own4 := own_below own4 hb11
        have own6 := own_below own6 hb11
        have own8 := own_below own8 hb11
        have own9 := own_below own9 hb11
        have BD := BD.below hb11 BD.lt
        have BQ := BQ.below hb11 BQ.lt
        have G0 := below_after G0 hb11
        have rdla := rdla.below hb11
        have rdlb := rdlb.below hb11
        have ls11 := hb11.size
        go_wp2
        go_ret
        exact ⟨rfl, G0⟩


set_option maxRecDepth 100000 in
theorem lifted (os : Os) (started : os.Started) (H : Type) (enc : TypeId × Value → H) :
    ReturnsInHanded {} Try.checked os 9 .any (Rows.fnDepsTwiceSpec.pre6 enc Try.prog Try.f9 Rows.fnDepsTwiceRow.domain false) (Rows.fnDepsTwiceSpec.post enc Try.prog Try.f9 false true false false) := by
  refine returnsInHanded_of_change (C := Try.checked) own started (by kernel_rfl) Try.func9
    (ChangeSpec.witness6 (enc := enc) (C := Try.checked) false ⟨#[], #[.slice none 0 0, .slice none 0 0], []⟩ 8 (by kernel_rfl) (by kernel_rfl) (by kernel_rfl) (by kernel_rfl)) ?_
  intro W base args ds gs before hval0 hW hcnd _
  have hval : ∀ (j : Nat) t v, Try.f9.params[j]? = some t → args[j]? = some v → Value.okWide Try.prog W .any base t v := hval0
  have hW' := hW
  obtain ⟨p, q, hA0, hV, rfl, hfz, hnd⟩ := hW
  have hA : DataW.TrodAll enc Try.prog W 0 (fun _ => true) true Try.f9.params.toList args.toList ds p := hA0
  rw [Try.params9] at hA hval
  obtain ⟨v0, vs0, d0, ds0, p0, q0, hargs, rfl, rfl, h0, r0⟩ := trodAll_cons hA
  obtain ⟨v1, vs1, d1, ds1, p1, q1, rfl, rfl, rfl, h1, r1⟩ := trodAll_cons r0
  obtain ⟨rfl, rfl, rfl⟩ := trodAll_nil r1
  obtain rfl : args = #[v0, v1] := by cases args; simp_all
  obtain ⟨rfl, rfl⟩ := trodVars_none hV
  have lt0 : ∀ x ∈ p0, x.block < W.heap.size := by obtain ⟨m, hm⟩ := h0; exact DataW.trod_lt m _ _ _ hm
  obtain ⟨a0, l0, k0, rfl, w0⟩ := bytes_of Try.underlying34 Try.underlying5 (by kernel_rfl) (hval 0 34 v0 rfl rfl) h0
  have lt1 : ∀ x ∈ p1, x.block < W.heap.size := by obtain ⟨m, hm⟩ := h1; exact DataW.trod_lt m _ _ _ hm
  obtain ⟨a1, l1, k1, rfl, w1⟩ := bytes_of Try.underlying34 Try.underlying5 (by kernel_rfl) (hval 1 34 v1 rfl rfl) h1
  clear hA0 hval0
  refine (walk a0 l0 k0 a1 l1 k1 W w0 w1).mono fun e W' ⟨he, bel⟩ => ?_
  subst he
  exact ⟨_, rfl, _, _, _, [], _, [], hW', trodAll_mk1 (shut_bool Try.underlying4 _), (trodAll_cons_mk (Below.trod laidOut (by kernel_rfl) (of_decide_eq_true (by kernel_rfl)) h0 bel lt0) (trodAll_cons_mk (Below.trod laidOut (by kernel_rfl) (of_decide_eq_true (by kernel_rfl)) h1 bel lt1) trodAll_mk0)), rfl, bel.frame _, fun h => by cases h⟩

theorem over_row : Rows.fnDepsTwiceRow.holds Try.pinned (OpenSpec.ofChange Rows.fnDepsTwiceSpec) :=
  OpenClaim.holds_of_wide 9 Try.f9 rfl rfl rfl rfl rfl rfl rfl ⟨rfl, rfl, rfl, rfl, rfl⟩ rfl rfl rfl rfl rfl (by kernel_rfl) Try.func9 (by kernel_rfl)
    (of_decide_eq_true (by kernel_rfl)) (by unfold Func.isWrapper; first | (rw [if_pos (by decide +kernel)]; kernel_rfl) | (rw [if_neg (by decide +kernel)]; exact ⟨rfl, rfl⟩))
    (fun os started H enc _ => lifted os started H enc)

/-- The statement. -/
theorem proved : Rows.FnDepsTwiceSaid := over_row
end Go.Proofs.Ytfibddeafddjoaa.fnDepsTwice
