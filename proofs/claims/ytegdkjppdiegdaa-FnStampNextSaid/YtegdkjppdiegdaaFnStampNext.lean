/- The next stamp is behind all, and of its site. Of every input that the given statement lets in. -/
import Derived.Test.YtegdkjppdiegdaaOpen
import Derived.Test.YtegdkjppdiegdaaDraw3
import Derived.Test.YtegdkjppdiegdaaNext
namespace Go.Proofs.Ytegdkjppdiegdaa.fnStampNext
open Go.ChangeShapes Go.WideShapes Go.ChangeAt Go.RowKit
set_option linter.unusedVariables false
theorem nextR_ok {site : Int} {l : List (Int × Int)} {t s : Int} (h : nextR site l = ((t, s), true)) : okAll l = true ∧ inB site 0 3 = true ∧ t = lastT l + 1 ∧ s = site ∧ lastT l ≤ 9998 := by
  unfold nextR at h
  split at h
  · rename_i hc
    simp only [Prod.mk.injEq] at h
    have := lastT_bd l hc.1
    exact ⟨hc.1, hc.2.1, h.1.1.symm, h.1.2.symm, by have := hc.2.2; omega⟩
  · simp at h
theorem nextR_any (site : Int) (l : List (Int × Int)) : ∃ t s b, nextR site l = ((t, s), b) := ⟨_, _, _, rfl⟩
theorem mx_l (m t : Int) : m ≤ mx m t := by unfold mx; split <;> omega
theorem mx_r (m t : Int) : t ≤ mx m t := by unfold mx; split <;> omega
theorem mx_ge (m : Int) : ∀ (l : List (Int × Int)), m ≤ l.foldl (fun m p => mx m p.1) m
  | [] => Int.le_refl _
  | p :: l => Int.le_trans (mx_l _ _) (mx_ge (mx m p.1) l)
theorem lastT_mem {l : List (Int × Int)} {p : Int × Int} (h : p ∈ l) : p.1 ≤ lastT l := by
  suffices H : ∀ m, p.1 ≤ l.foldl (fun m p => mx m p.1) m from H 0
  induction l with
  | nil => simp at h
  | cons q l ih =>
    intro m
    rcases List.mem_cons.1 h with rfl | h
    · exact Int.le_trans (mx_r _ _) (mx_ge _ l)
    · exact ih h _
theorem lastT_snoc (l : List (Int × Int)) (p : Int × Int) : lastT l ≤ lastT (l ++ [p]) := by
  simp only [lastT, List.foldl_append, List.foldl_cons, List.foldl_nil]
  exact mx_l _ _
theorem less_of {l : List (Int × Int)} {k : Nat} (h : k < l.length) (s : Int) : stampLessB l[k].1 l[k].2 (lastT l + 1) s = true := by
  have := lastT_mem (List.getElem_mem h)
  simp only [stampLessB, Bool.or_eq_true, decide_eq_true_eq]; left; omega

set_option maxHeartbeats 1000000 in
theorem walk (a0 : Option Addr) (l0 k0 : Nat) (a1 : Option Addr) (l1 k1 : Nat) (w : World) (w0 : BytesIn w a0 l0 k0) (w1 : BytesIn w a1 l1 k1) :
    Calls Try.prog 14 #[.slice a0 l0 k0, .slice a1 l1 k1] w fun e w' => e = .returned (.bool true) ∧ Below w.heap.size w w' := by
  by_cases hbig : 1048576 < l0
  · have hbig' : (1048576 : Int) < (l0 : Int) := by omega
    go_enter Try.func14, Try.ntmps14
    go_wp2
    go_ret
    exact ⟨rfl, Below.refl _ _⟩
  · have hbig' : (l0 : Int) ≤ (1048576 : Int) := by omega
    by_cases hbih : 1048576 < l1
    · have hbih' : (1048576 : Int) < (l1 : Int) := by omega
      go_enter Try.func14, Try.ntmps14
      go_wp2
      go_ret
      exact ⟨rfl, Below.refl _ _⟩
    · have hbih' : (l1 : Int) ≤ (1048576 : Int) := by omega
      have w1x := w1
      clear w1
      go_enter Try.func14, Try.ntmps14
      have G0 := Below.refl w.heap.size w
      go_wp2_with fail
      refine (DrawStampNext_any _ _ _ _ w0).mono ?_
      rintro e w1 ⟨site, l, a, cap, rfl, hs1, hs2, hl, hbd, hrd, hb1⟩
      obtain ⟨t, s, b, hR⟩ := nextR_any site l
      have G0 := below_after G0 hb1
      go_wp2_with fail
      refine (stampNext_spec site l a cap _ hrd (by omega)).mono ?_
      rintro e w2 ⟨he, hb2⟩
      rw [hR] at he
      subst he
      have hrd2 := hrd.below hb2
      have HR := Lib.hid hR
      clear hR
      have G0 := below_after G0 hb2
      go_wp2_with fail
      have B1 := Blk.new w2 #[.int .i64 t, .int .i64 s] 26
      have G0 := below_alloc G0 (.cells #[.int .i64 t, .int .i64 s] 26)
      have hrd2b := hrd2.alloc (.cells #[.int .i64 t, .int .i64 s] 26)
      refine (stampNext_impl site l a cap _ hrd2b (by omega)).mono ?_
      rintro e w3 ⟨he, hb3⟩
      rw [HR.out] at he
      subst he
      have hrd3 := hrd2b.below hb3
      have B1 := B1.below hb3 B1.lt
      have G0 := below_after G0 hb3
      obtain ⟨B1k0, B1k1, B1f, B1l⟩ := B1.two
      cases b with
      | false =>
        go_wp2
        go_ret
        exact ⟨rfl, below_alloc G0 _⟩
      | true =>
        obtain ⟨hok, hsite, ht, hss, h98⟩ := nextR_ok HR.out
        have hbl := lastT_bd l hok
        have hsok : stampOkB t s = true := by
          rw [stampOkB_iff]; have := inB_iff.1 hsite; omega
        have ht1 : 1 ≤ t := by omega
        have ht2 : t ≤ 9999 := by omega
        have hsb : (s == site) = true := by simp [hss]
        have HT := Lib.hid ht
        clear ht hss hbl
        go_wp2
        have B1 := B1.alloc (.cells #[.int .i64 t, .int .i64 s] 26)
        have B2 := Blk.new w3 #[.int .i64 t, .int .i64 s] 26
        have G0 := below_alloc G0 (.cells #[.int .i64 t, .int .i64 s] 26)
        have hrX := hrd3.alloc (.cells #[.int .i64 t, .int .i64 s] 26)
        go_loopw [11] (fun i wr => ∃ k : Nat, k ≤ l.length ∧ i = .int .i64 k ∧ Below (w3.alloc (.cells #[.int .i64 t, .int .i64 s] 26)).heap.size (w3.alloc (.cells #[.int .i64 t, .int .i64 s] 26)) wr) (fun i _ => l.length - (intOf i).toNat)
        case atStart => exact ⟨0, Nat.zero_le _, rfl, Below.refl _ _⟩
        case round =>
          obtain ⟨k, hk, rfl, HB⟩ := hrel
          have hrw := hrX.below HB
          have C2 := B2.below HB B2.lt
          obtain ⟨m0, m1, mf, ml⟩ := C2.two
          by_cases hlt : k < l.length
          · have hr' := hrw
            obtain ⟨_, _, h3⟩ := hr'
            obtain ⟨b, off, rfl, hbl, hcell⟩ := h3 (stsC_ne (by omega))
            obtain ⟨g0, g1⟩ := stsC_get l k hlt
            have c0 := hcell _ _ g0
            have c1 := hcell _ _ g1
            rw [← Nat.add_assoc] at c1
            have hi0 : (0 : Int) ≤ (k : Int) := by omega
            have hi1 : (k : Int) < (l.length : Int) := by omega
            have hless := HT.out ▸ less_of hlt s
            clear hcell h3 g0 g1
            go_wp2
            refine region_over (by kernel_rfl) (by kernel_rfl) ?_
            repeat (go_big_quiet_step (first | (go_at_call 17; exact quiet_over (stampLess_impl _ _ _ _ _))))
            refine wpQuiet_nil ?_
            intro w4 hb4
            have hbw := below_after HB hb4
            go_wp2
            go_roundw
            case rel => exact ⟨k + 1, by omega, by go_num, hbw⟩
            case measure => simp [intOf]; omega
          · obtain rfl : k = l.length := by omega
            have G1 := below_after G0 HB
            have hrl := hrw
            obtain ⟨i0, hi, hz0, hz1, hz2⟩ := info_parts infoStamp
            have own0 := World.ownsRow_made (base := wr.heap.size) (size := 2) (e := 26) wr #[] 0 (Nat.le_refl _) (by simp) (by simp)
            go_wp2_with (at_builtin; refine wpList_append_src _ rfl (.tmp 74) (.tmp 75) 41 rfl wr.heap.size 26 i0 _ 2 16 Try.underlying41 hi hz0 hz1 hz2 rfl (by decide) _ _ _ rfl own0 a l.length cap (stsC l) rfl (stsC_len l) (hrl.alloc _) (stsC_one l) ?c3 ?c4 ?c5 ?_)
            case c3 => unfold maxLen; omega
            case c4 => omega
            case c5 => simp
            intro v5 w5 own5 hg5
            have hb5 := below_app (below_box wr (.cells #[] 26)) own0 hg5 (Nat.le_refl _) (by simp)
            have G5 := below_after G1 hb5
            have C5 := C2.below hb5 C2.lt
            go_wp2_with fail
            refine (DrawStampOk_any _ _ _ _ (w1x.below G5)).mono ?_
            rintro e w6 ⟨p, r, rfl, hp1, hp2, hr1, hr2, hb6⟩
            have G6 := below_after G5 hb6
            have C6 := C5.below hb6 C5.lt
            have own6 := own_below own5 hb6
            have hle6 := hb5.size
            have hlf6 := hb6.size
            go_wp2_with (at_builtin; refine wpList_append_own _ rfl (.tmp 76) (.tmp 79) 41 rfl wr.heap.size 26 i0 _ 2 16 Try.underlying41 hi hz0 hz1 hz2 rfl (by decide) _ _ _ rfl (own6.alloc _) ⟨w6.heap.size, 0, none⟩ 1 1 [.int .i64 p, .int .i64 r] rfl rfl ?d1 ?d2 ?d3 ?d4 ?d5 ?_)
            case d1 => exact cell_two_at _ _ _ _
            case d2 => intro u hu; simp at hu; rcases hu with rfl | rfl <;> rfl
            case d3 => unfold maxLen; omega
            case d4 => omega
            case d5 => simp; omega
            intro v7 w7 own7 hg7 _
            have hb7 := below_app (below_alloc (below_after hb5 hb6) (.cells #[.int .i64 p, .int .i64 r] 26)) (own6.alloc _) hg7 (Nat.le_refl _) (by simp; omega)
            have G7 := below_after G1 hb7
            have C7 := C2.below hb7 C2.lt
            have own8 : w7.ownsRow wr.heap.size 26 2 v7 (l ++ [(p, r)]).length (stsC (l ++ [(p, r)])) := by rw [stsC_snoc]; simpa using own7
            obtain ⟨l2, hl2⟩ : ∃ l2, l ++ [(p, r)] = l2 := ⟨_, rfl⟩
            have hlen : l2.length ≤ 1048577 := by rw [← hl2]; simp; omega
            have hmore := lastT_snoc l (p, r)
            rw [hl2] at own8 hmore
            obtain ⟨a7, c7, rfl, rd7⟩ := Reads.of_owns own8
            obtain ⟨t2, s2, b2, hR2⟩ := nextR_any site l2
            have HR2 := Lib.hid hR2
            have hge : b2 = true → t ≤ t2 := fun hb => by
              subst hb; have h := nextR_ok hR2; have := HT.out; omega
            clear hR2 hl2 own8 own7
            go_wp2_with fail
            refine (stampNext_impl site l2 a7 c7 _ rd7 hlen).mono ?_
            rintro e w8 ⟨he, hb8⟩
            rw [HR2.out] at he
            subst he
            have G8 := below_after G7 hb8
            have C8 := C7.below hb8 C7.lt
            obtain ⟨n0, n1, nf, nl⟩ := C8.two
            cases b2 with
            | false =>
              clear hge
              go_wp2_with (first | (go_at_call 19; refine (stampOk_impl _ _ _).mono ?_; rintro e w1 ⟨rfl, hb⟩; obtain ⟨hc, hf, hl, hle⟩ := bcell hb))
              go_ret
              exact ⟨by simp_all, below_after (below_alloc G8 _) hb⟩
            | true =>
              have hge := hge rfl
              go_wp2_with (first | (go_at_call 19; refine (stampOk_impl _ _ _).mono ?_; rintro e w1 ⟨rfl, hb⟩; obtain ⟨hc, hf, hl, hle⟩ := bcell hb))
              go_ret
              exact ⟨by simp_all, below_after (below_alloc G8 _) hb⟩

set_option maxRecDepth 100000 in
theorem lifted (os : Os) (started : os.Started) (H : Type) (enc : TypeId × Value → H) :
    ReturnsInHanded {} Try.checked os 14 .any (Rows.fnStampNextSpec.pre6 enc Try.prog Try.f14 Rows.fnStampNextRow.domain false) (Rows.fnStampNextSpec.post enc Try.prog Try.f14 false true false false) := by
  refine returnsInHanded_of_change (C := Try.checked) own started (by kernel_rfl) Try.func14
    (ChangeSpec.witness6 (enc := enc) (C := Try.checked) false ⟨#[], #[.slice none 0 0, .slice none 0 0], []⟩ 8 (by kernel_rfl) (by kernel_rfl) (by kernel_rfl) (by kernel_rfl)) ?_
  intro W base args ds gs before hval0 hW hcnd _
  have hval : ∀ (j : Nat) t v, Try.f14.params[j]? = some t → args[j]? = some v → Value.okWide Try.prog W .any base t v := hval0
  have hW' := hW
  obtain ⟨p, q, hA0, hV, rfl, hfz, hnd⟩ := hW
  have hA : DataW.TrodAll enc Try.prog W 0 (fun _ => true) true Try.f14.params.toList args.toList ds p := hA0
  rw [Try.params14] at hA hval
  obtain ⟨v0, vs0, d0, ds0, p0, q0, hargs, rfl, rfl, h0, r0⟩ := trodAll_cons hA
  obtain ⟨v1, vs1, d1, ds1, p1, q1, rfl, rfl, rfl, h1, r1⟩ := trodAll_cons r0
  obtain ⟨rfl, rfl, rfl⟩ := trodAll_nil r1
  obtain rfl : args = #[v0, v1] := by cases args; simp_all
  obtain ⟨rfl, rfl⟩ := trodVars_none hV
  have lt0 : ∀ x ∈ p0, x.block < W.heap.size := by obtain ⟨m, hm⟩ := h0; exact DataW.trod_lt m _ _ _ hm
  obtain ⟨a0, l0, k0, rfl, w0⟩ := bytes_of Try.underlying33 Try.underlying5 (by kernel_rfl) (hval 0 33 v0 rfl rfl) h0
  have lt1 : ∀ x ∈ p1, x.block < W.heap.size := by obtain ⟨m, hm⟩ := h1; exact DataW.trod_lt m _ _ _ hm
  obtain ⟨a1, l1, k1, rfl, w1⟩ := bytes_of Try.underlying33 Try.underlying5 (by kernel_rfl) (hval 1 33 v1 rfl rfl) h1
  clear hA0 hval0
  refine (walk a0 l0 k0 a1 l1 k1 W w0 w1).mono fun e W' ⟨he, bel⟩ => ?_
  subst he
  exact ⟨_, rfl, _, _, _, [], _, [], hW', trodAll_mk1 (shut_bool Try.underlying4 _), (trodAll_cons_mk (Below.trod laidOut (by kernel_rfl) (of_decide_eq_true (by kernel_rfl)) h0 bel lt0) (trodAll_cons_mk (Below.trod laidOut (by kernel_rfl) (of_decide_eq_true (by kernel_rfl)) h1 bel lt1) trodAll_mk0)), rfl, bel.frame _, fun h => by cases h⟩

theorem over_row : Rows.fnStampNextRow.holds Try.pinned (OpenSpec.ofChange Rows.fnStampNextSpec) :=
  OpenClaim.holds_of_wide 14 Try.f14 rfl rfl rfl rfl rfl rfl rfl ⟨rfl, rfl, rfl, rfl, rfl⟩ rfl rfl rfl rfl rfl (by kernel_rfl) Try.func14 (by kernel_rfl)
    (of_decide_eq_true (by kernel_rfl)) (by unfold Func.isWrapper; first | (rw [if_pos (by decide +kernel)]; kernel_rfl) | (rw [if_neg (by decide +kernel)]; exact ⟨rfl, rfl⟩))
    (fun os started H enc _ => lifted os started H enc)

/-- The statement. -/
theorem proved : Rows.FnStampNextSaid := over_row
end Go.Proofs.Ytegdkjppdiegdaa.fnStampNext
