/- Lists of versions copied, and one with one more in its place: the reference's. -/
import Derived.Test.YthciikogogkfcaaPutP
import Derived.Test.YthciikogogkfcaaChainW3
import Derived.Test.YthciikogogkfcaaTwo
import Derived.Test.YthciikogogkfcaaConvVS
namespace Go.Proofs.Ythciikogogkfcaa
open Go.RowKit Go.Deep
set_option linter.unusedVariables false

/-- A list of versions and a bool come back, the list in memory of the callee's own. -/
def GivesVersB (l : List Vp) (b : Bool) (w : World) (e : Ending) (w' : World) : Prop := ∃ v ms, e = .returned (.tuple #[v, .bool b]) ∧ vs ms = l ∧ OwnVers w.heap.size w' v ms ∧ Below w.heap.size w w'
theorem gives_vb {l l' : List Vp} {b b' : Bool} {w : World} {e : Ending} {w' : World} (h : GivesVersB l b w e w') (hl : l = l') (hb : b = b') : GivesVersB l' b' w e w' := by subst hl; subst hb; exact h
theorem OwnVers.made (w : World) : OwnVers w.heap.size (w.alloc (.cells #[] 27)) (.slice (some ⟨w.heap.size, 0, none⟩) 0 0) [] :=
  ⟨World.ownsRow_made (base := w.heap.size) (size := 7) (e := 27) w #[] 0 (Nat.le_refl _) (by simp) (by simp), OwnIn.nil _ _⟩
theorem infoVerP : (Try.prog.info? 27).map (fun i => (i.zero, i.size, i.bytes)) = some (some (.agg #[.int .i64 0, .int .i64 0, .int .i64 0, .int .i64 0, .int .i64 0, .int .i64 0, .slice none 0 0]), 7, 72) := by kernel_rfl
set_option maxRecDepth 100000 in
set_option maxHeartbeats 4000000 in
theorem l2Vers_spec (l : List Mv) (a : Option Addr) (c : Nat) (w : World) (hvs : Vers w a c l) (hf : Few l) :
    Calls Try.prog 140 #[.slice a l.length c] w (ToVers (vs l) w) := by
  obtain ⟨i0, hi, hz0, hz1, hz2⟩ := info_parts infoVerP
  have hf1 := hf.1
  go_enter Try.func140, Try.ntmps140
  go_wp2
  go_loopw [3, 4] (fun v i wr => ∃ (k : Nat) (A : List Mv) (pa : Option Addr) (ca : Nat), k ≤ l.length ∧ i = .int .i64 k ∧ v = .slice pa A.length ca ∧ A.length = k ∧ vs A = (vs l).take k ∧ OwnVers w.heap.size wr (.slice pa A.length ca) A ∧ Below w.heap.size w wr) (fun _ i _ => l.length - (intOf i).toNat)
  case atStart => exact ⟨0, [], _, 0, Nat.zero_le _, rfl, rfl, rfl, rfl, OwnVers.made w, below_box _ _⟩
  case round =>
    obtain ⟨k, A, pa, ca, hk, rfl, rfl, hAk, hvA, T, hBw⟩ := hrel
    have HA := Lib.hid hvA
    have HK := Lib.hid hAk
    clear hvA hAk
    have hwz := hBw.size
    by_cases hlt : k < l.length
    · have hv := hvs.below hBw
      have hi0 : (0 : Int) ≤ (k : Int) := by omega
      have hi1 : (k : Int) < (l.length : Int) := by omega
      have hdk := hv.get k hlt
      have hlts := T.lts
      have HE := Lib.hid (vs_get l k hlt)
      obtain ⟨b, off, hab, hbl, c0, c1, c2, c3, c4, c5, c6⟩ := hv.at_ k hlt
      subst hab
      have G0 := hBw
      go_wp2_with fail
      refine (l2Copy_spec l[k].v l[k].a l[k].c _ hdk (hf.get k hlt)).mono ?_
      rintro e w3 ⟨p3, cc3, rfl, own3, hb3⟩
      have T3 := T.below hb3
      have G3 := below_after G0 hb3
      have hAk : A.length ≤ 1048577 := by have := HK.out; omega
      have hs3 := G3.size
      go_wp2_with (at_builtin; refine wpList_append_lies _ rfl (.tmp 12) (.tmp 18) 39 rfl (w.heap.size) 27 i0 _ 7 72 Try.underlying39 hi hz0 hz1 hz2 rfl (by decide) _ _ _ rfl (T3.own.alloc _) _ 1 1 (mvC ⟨l[k].v, p3, cc3⟩) rfl rfl (by exact cells_at _ _ _ rfl rfl) (by exact mvC_one _) (by omega) (by unfold maxLen; omega) (by omega) (by simp; omega) _ rfl ?_)
      intro g5 c5 w5 own5 hg5 hor5 hlt5
      have T5 := OwnVers.app (m := ⟨l[k].v, p3, cc3⟩) (T3.below (below_box _ (.cells #[.int .i64 l[k].v.key, .int .i64 l[k].v.time, .int .i64 l[k].v.site, .int .i64 l[k].v.val, .int .i64 l[k].v.client, .int .i64 l[k].v.call, .slice p3 l[k].v.deps.length cc3] 27))) own5 (by simp only [List.length_append, List.length_cons, List.length_nil]) (mvsC_snoc _ _).symm hg5 (own_below own3 (below_box _ (.cells #[.int .i64 l[k].v.key, .int .i64 l[k].v.time, .int .i64 l[k].v.site, .int .i64 l[k].v.val, .int .i64 l[k].v.client, .int .i64 l[k].v.call, .slice p3 l[k].v.deps.length cc3] 27))) (by omega) (fun x hx b hb => by have := hlts x hx b hb; simp; omega)
      have hbx5 : Below (w.heap.size) w3 w5 := below_app ((Below.refl _ _).alloc (by omega) (.cells #[.int .i64 l[k].v.key, .int .i64 l[k].v.time, .int .i64 l[k].v.site, .int .i64 l[k].v.val, .int .i64 l[k].v.client, .int .i64 l[k].v.call, .slice p3 l[k].v.deps.length cc3] 27)) (own_below T3.own (below_box _ (.cells #[.int .i64 l[k].v.key, .int .i64 l[k].v.time, .int .i64 l[k].v.site, .int .i64 l[k].v.val, .int .i64 l[k].v.client, .int .i64 l[k].v.call, .slice p3 l[k].v.deps.length cc3] 27))) hg5 (Nat.le_refl _) (by simp; omega)
      have G5 := G3.trans (hbx5.mono (by omega))

      have HV : Hid (vs (A ++ [(⟨l[k].v, p3, cc3⟩ : Mv)]) = (vs l).take (k + 1)) := by
        show _ = _
        rw [vs_snoc, HA.out, List.take_succ_eq_append_getElem (by rw [vs_len]; exact hlt), HE.out]
      clear own5 hg5 hor5
      go_wp2
      go_roundw
      case rel => exact ⟨k + 1, A ++ [(⟨l[k].v, p3, cc3⟩ : Mv)], some ⟨g5, 0, none⟩, c5, by omega, by go_num, by simp, by have := HK.out; simp; omega, HV.out, by rw [List.length_append]; exact T5, G5⟩
      case measure => simp [intOf]; omega
    · obtain rfl : k = l.length := by omega
      have HV : Hid (vs A = vs l) := by have := HA.out; rwa [← vs_len l, List.take_length] at this
      go_wp2
      go_ret
      exact ⟨_, A, rfl, HV.out, T, hBw⟩

set_option maxRecDepth 100000 in
set_option maxHeartbeats 8000000 in
theorem l3Put_spec (l : List Mv) (x : Vp) (a ax : Option Addr) (c cx : Nat) (w : World) (hvs : Vers w a c l) (hf : Few l) (hd : Reads w ax x.deps.length cx (dpsC x.deps)) (hxl : x.deps.length ≤ 1048577) (hno : ∀ u ∈ vs l, depV u ≠ depV x) :
    Calls Try.prog 141 #[.slice a l.length c, .agg #[.int .i64 x.key, .int .i64 x.time, .int .i64 x.site, .int .i64 x.val, .int .i64 x.client, .int .i64 x.call, .slice ax x.deps.length cx]] w (ToVers (putV (vs l) x) w) := by
  obtain ⟨i0, hi, hz0, hz1, hz2⟩ := info_parts infoVerP
  have hf1 := hf.1
  have BX := Blk.new w #[.int .i64 x.key, .int .i64 x.time, .int .i64 x.site, .int .i64 x.val, .int .i64 x.client, .int .i64 x.call, .slice ax x.deps.length cx] 27
  have G0 := below_box w (.cells #[.int .i64 x.key, .int .i64 x.time, .int .i64 x.site, .int .i64 x.val, .int .i64 x.client, .int .i64 x.call, .slice ax x.deps.length cx] 27)
  have T0 := OwnVers.made (w.alloc (.cells #[.int .i64 x.key, .int .i64 x.time, .int .i64 x.site, .int .i64 x.val, .int .i64 x.client, .int .i64 x.call, .slice ax x.deps.length cx] 27))
  have BX := BX.alloc (.cells #[] 27)
  have G0 := below_alloc G0 (.cells #[] 27)
  simp only [World.size_alloc] at T0
  go_enter Try.func141, Try.ntmps141
  go_wp2
  go_loopw [5, 6, 7] (fun v d i wr => ∃ (k : Nat) (A : List Mv) (pa : Option Addr) (ca : Nat) (db : Bool), k ≤ l.length ∧ i = .int .i64 k ∧ v = .slice pa A.length ca ∧ d = .bool db ∧ OwnVers (w.heap.size + 1) wr (.slice pa A.length ca) A ∧ Blk wr w.heap.size #[.int .i64 x.key, .int .i64 x.time, .int .i64 x.site, .int .i64 x.val, .int .i64 x.client, .int .i64 x.call, .slice ax x.deps.length cx] 27 ∧ VSt (vs l) x k db (vs A) ∧ Below w.heap.size w wr) (fun _ _ i _ => l.length - (intOf i).toNat)
  case atStart => exact ⟨0, [], _, 0, false, Nat.zero_le _, rfl, rfl, rfl, T0, BX, VSt.start _ _, G0⟩
  case round =>
    obtain ⟨k, A, pa, ca, db, hk, rfl, rfl, rfl, T, BX, hst, hBw⟩ := hrel
    have HS := Lib.hid hst
    clear hst
    have hwz := BX.lt
    have hAL := HS.out.len
    rw [vs_len] at hAL

    by_cases hlt : k < l.length
    · have hv := hvs.below hBw
      have hi0 : (0 : Int) ≤ (k : Int) := by omega
      have hi1 : (k : Int) < (l.length : Int) := by omega
      have hkv : k < (vs l).length := by rw [vs_len]; exact hlt
      have hne := hno l[k].v (by rw [← vs_get l k hlt]; exact List.getElem_mem hkv)
      obtain ⟨b, off, hab, hbl, c0, c1, c2, c3, c4, c5, c6⟩ := hv.at_ k hlt
      first | (simp only [Option.some.injEq, Addr.mk.injEq, and_true] at hab; obtain ⟨rfl, rfl⟩ := hab) | subst hab
      obtain ⟨x0, x1, x2, x3, x4, x5, x6, xf, xl⟩ := BX.seven

      cases db with
      | true =>
        go_wp2
        refine region_over (by kernel_rfl) (by kernel_rfl) ?_
        repeat (go_big_quiet_step (fail))
        refine wpQuiet_nil ?_
        intro w9 hb9
        have T := T.below hb9
        have BX := BX.below hb9 BX.lt
        have hBw := below_after hBw hb9
        have hv := hv.below hb9
        have hwz9 := hb9.size

        obtain ⟨b, off, hab, hbl, c0, c1, c2, c3, c4, c5, c6⟩ := hv.at_ k hlt
        first | (simp only [Option.some.injEq, Addr.mk.injEq, and_true] at hab; obtain ⟨rfl, rfl⟩ := hab) | subst hab
        obtain ⟨x0, x1, x2, x3, x4, x5, x6, xf, xl⟩ := BX.seven

        have hltL := T.lts
        go_wp2_with fail
        refine (l2Copy_spec l[k].v l[k].a l[k].c _ (hv.get k hlt) (hf.get k hlt)).mono ?_
        rintro e w6 ⟨p6, cc6, rfl, own6, hb6⟩
        have T6 := T.below hb6
        have BX := BX.below hb6 BX.lt
        have G6 := below_after hBw hb6
        have hz6 := hb6.size
        have hs6 := G6.size
        go_wp2_with (at_builtin; refine wpList_append_lies _ rfl (.tmp 30) (.tmp 36) 39 rfl (w.heap.size + 1) 27 i0 _ 7 72 Try.underlying39 hi hz0 hz1 hz2 rfl (by decide) _ _ _ rfl (T6.own.alloc _) _ 1 1 (mvC ⟨l[k].v, p6, cc6⟩) rfl rfl (by exact cells_at _ _ _ rfl rfl) (by exact mvC_one _) (by omega) (by unfold maxLen; omega) (by omega) (by simp; omega) _ rfl ?_)
        intro g7 c7 w7 own7 hg7 hor7 hlt7
        have T7 := OwnVers.app (m := ⟨l[k].v, p6, cc6⟩) (T6.below (below_box _ (.cells #[.int .i64 l[k].v.key, .int .i64 l[k].v.time, .int .i64 l[k].v.site, .int .i64 l[k].v.val, .int .i64 l[k].v.client, .int .i64 l[k].v.call, .slice p6 l[k].v.deps.length cc6] 27))) own7 (by simp only [List.length_append, List.length_cons, List.length_nil]) (mvsC_snoc _ _).symm hg7 (own_below own6 (below_box _ (.cells #[.int .i64 l[k].v.key, .int .i64 l[k].v.time, .int .i64 l[k].v.site, .int .i64 l[k].v.val, .int .i64 l[k].v.client, .int .i64 l[k].v.call, .slice p6 l[k].v.deps.length cc6] 27))) (by omega) (fun x hx b hb => by have := hltL x hx b hb; simp; omega)
        have hbx7 : Below (w.heap.size + 1) w6 w7 := below_app ((Below.refl _ _).alloc (by omega) (.cells #[.int .i64 l[k].v.key, .int .i64 l[k].v.time, .int .i64 l[k].v.site, .int .i64 l[k].v.val, .int .i64 l[k].v.client, .int .i64 l[k].v.call, .slice p6 l[k].v.deps.length cc6] 27)) (own_below T6.own (below_box _ (.cells #[.int .i64 l[k].v.key, .int .i64 l[k].v.time, .int .i64 l[k].v.site, .int .i64 l[k].v.val, .int .i64 l[k].v.client, .int .i64 l[k].v.call, .slice p6 l[k].v.deps.length cc6] 27))) hg7 (Nat.le_refl _) (by simp; omega)
        have G7 := G6.trans (hbx7.mono (by omega))
        have BX := BX.below hbx7 (by omega)
        clear own7 hg7 hor7

        have HN : Hid (VSt (vs l) x (k + 1) true (vs (A ++ [(⟨l[k].v, p6, cc6⟩ : Mv)]))) := by
          show VSt _ _ _ _ _
          have h := HS.out.on hkv
          rw [vs_get l k hlt] at h
          rw [vs_snoc]; first | exact h | (rw [vs_snoc]; exact h)
        go_wp2
        go_roundw
        case rel => exact ⟨k + 1, A ++ [(⟨l[k].v, p6, cc6⟩ : Mv)], some ⟨g7, 0, none⟩, c7, true, by omega, by go_num, by simp, rfl, by first | (rw [List.length_append]; exact T7) | (simpa using T7), BX, HN.out, G7⟩
        case measure => simp [intOf]; omega
      | false =>
        rcases hl : vLess l[k].v x with _ | _
        · have hlx : depLessB x.key x.time x.site l[k].v.key l[k].v.time l[k].v.site = true := by rw [← vLess_dep]; exact vLess_tot hl hne
          have HL := Lib.hid hl
          clear hl
          go_wp2
          refine region_over (by kernel_rfl) (by kernel_rfl) ?_
          repeat (go_big_quiet_step ((go_at_call 111; exact quiet_over (bool_is hlx (l3Less_spec _ _ _ _ _ _ _ _ _ _ _ _ _ _ _ _ _ _ _)))))
          refine wpQuiet_nil ?_
          intro w9 hb9
          have T := T.below hb9
          have BX := BX.below hb9 BX.lt
          have hBw := below_after hBw hb9
          have hv := hv.below hb9
          have hwz9 := hb9.size

          clear hlx
          obtain ⟨x0, x1, x2, x3, x4, x5, x6, xf, xl⟩ := BX.seven
          have hltX := T.lts
          go_wp2_with fail
          refine (l2Copy_spec x ax cx _ (hd.below hBw) hxl).mono ?_
          rintro e w3 ⟨p3, cc3, rfl, own3, hb3⟩
          have T3 := T.below hb3
          have BX := BX.below hb3 BX.lt
          have G3 := below_after hBw hb3
          have hz3 := hb3.size
          have hs3 := G3.size
          go_wp2_with (at_builtin; refine wpList_append_lies _ rfl (.tmp 25) (.tmp 28) 39 rfl (w.heap.size + 1) 27 i0 _ 7 72 Try.underlying39 hi hz0 hz1 hz2 rfl (by decide) _ _ _ rfl (T3.own.alloc _) _ 1 1 (mvC ⟨x, p3, cc3⟩) rfl rfl (by exact cells_at _ _ _ rfl rfl) (by exact mvC_one _) (by omega) (by unfold maxLen; omega) (by omega) (by simp; omega) _ rfl ?_)
          intro g5 c5 w5 own5 hg5 hor5 hlt5
          have T5 := OwnVers.app (m := ⟨x, p3, cc3⟩) (T3.below (below_box _ (.cells #[.int .i64 x.key, .int .i64 x.time, .int .i64 x.site, .int .i64 x.val, .int .i64 x.client, .int .i64 x.call, .slice p3 x.deps.length cc3] 27))) own5 (by simp only [List.length_append, List.length_cons, List.length_nil]) (mvsC_snoc _ _).symm hg5 (own_below own3 (below_box _ (.cells #[.int .i64 x.key, .int .i64 x.time, .int .i64 x.site, .int .i64 x.val, .int .i64 x.client, .int .i64 x.call, .slice p3 x.deps.length cc3] 27))) (by omega) (fun x hx b hb => by have := hltX x hx b hb; simp; omega)
          have hbx5 : Below (w.heap.size + 1) w3 w5 := below_app ((Below.refl _ _).alloc (by omega) (.cells #[.int .i64 x.key, .int .i64 x.time, .int .i64 x.site, .int .i64 x.val, .int .i64 x.client, .int .i64 x.call, .slice p3 x.deps.length cc3] 27)) (own_below T3.own (below_box _ (.cells #[.int .i64 x.key, .int .i64 x.time, .int .i64 x.site, .int .i64 x.val, .int .i64 x.client, .int .i64 x.call, .slice p3 x.deps.length cc3] 27))) hg5 (Nat.le_refl _) (by simp; omega)
          have G5 := G3.trans (hbx5.mono (by omega))
          have BX := BX.below hbx5 (by omega)
          have hz5 := hbx5.size
          clear own5 hg5 hor5

          obtain ⟨b, off, hab, hbl, c0, c1, c2, c3, c4, c5, c6⟩ := (hvs.below G5).at_ k hlt
          first | (simp only [Option.some.injEq, Addr.mk.injEq, and_true] at hab; obtain ⟨rfl, rfl⟩ := hab) | subst hab
          obtain ⟨x0, x1, x2, x3, x4, x5, x6, xf, xl⟩ := BX.seven

          have hv := hvs.below G5
          have hln5 : (A ++ [(⟨x, p3, cc3⟩ : Mv)]).length = A.length + 1 := by simp
          have hltL := T5.lts
          go_wp2_with fail
          refine (l2Copy_spec l[k].v l[k].a l[k].c _ (hv.get k hlt) (hf.get k hlt)).mono ?_
          rintro e w6 ⟨p6, cc6, rfl, own6, hb6⟩
          have T6 := T5.below hb6
          have BX := BX.below hb6 BX.lt
          have G6 := below_after G5 hb6
          have hz6 := hb6.size
          have hs6 := G6.size
          go_wp2_with (at_builtin; refine wpList_append_lies _ rfl (.tmp 30) (.tmp 36) 39 rfl (w.heap.size + 1) 27 i0 _ 7 72 Try.underlying39 hi hz0 hz1 hz2 rfl (by decide) _ _ _ rfl (T6.own.alloc _) _ 1 1 (mvC ⟨l[k].v, p6, cc6⟩) rfl rfl (by exact cells_at _ _ _ rfl rfl) (by exact mvC_one _) (by omega) (by unfold maxLen; omega) (by omega) (by simp; omega) _ rfl ?_)
          intro g7 c7 w7 own7 hg7 hor7 hlt7
          have T7 := OwnVers.app (m := ⟨l[k].v, p6, cc6⟩) (T6.below (below_box _ (.cells #[.int .i64 l[k].v.key, .int .i64 l[k].v.time, .int .i64 l[k].v.site, .int .i64 l[k].v.val, .int .i64 l[k].v.client, .int .i64 l[k].v.call, .slice p6 l[k].v.deps.length cc6] 27))) own7 (by simp only [List.length_append, List.length_cons, List.length_nil]) (mvsC_snoc _ _).symm hg7 (own_below own6 (below_box _ (.cells #[.int .i64 l[k].v.key, .int .i64 l[k].v.time, .int .i64 l[k].v.site, .int .i64 l[k].v.val, .int .i64 l[k].v.client, .int .i64 l[k].v.call, .slice p6 l[k].v.deps.length cc6] 27))) (by omega) (fun x hx b hb => by have := hltL x hx b hb; simp; omega)
          have hbx7 : Below (w.heap.size + 1) w6 w7 := below_app ((Below.refl _ _).alloc (by omega) (.cells #[.int .i64 l[k].v.key, .int .i64 l[k].v.time, .int .i64 l[k].v.site, .int .i64 l[k].v.val, .int .i64 l[k].v.client, .int .i64 l[k].v.call, .slice p6 l[k].v.deps.length cc6] 27)) (own_below T6.own (below_box _ (.cells #[.int .i64 l[k].v.key, .int .i64 l[k].v.time, .int .i64 l[k].v.site, .int .i64 l[k].v.val, .int .i64 l[k].v.client, .int .i64 l[k].v.call, .slice p6 l[k].v.deps.length cc6] 27))) hg7 (Nat.le_refl _) (by simp; omega)
          have G7 := G6.trans (hbx7.mono (by omega))
          have BX := BX.below hbx7 (by omega)
          clear own7 hg7 hor7

          have HN : Hid (VSt (vs l) x (k + 1) true (vs ((A ++ [(⟨x, p3, cc3⟩ : Mv)]) ++ [(⟨l[k].v, p6, cc6⟩ : Mv)]))) := by
            show VSt _ _ _ _ _
            have h := HS.out.here hkv (by rw [vs_get l k hlt]; exact HL.out)
            rw [vs_get l k hlt] at h
            rw [vs_snoc]; first | exact h | (rw [vs_snoc]; exact h)
          go_wp2
          go_roundw
          case rel => exact ⟨k + 1, (A ++ [(⟨x, p3, cc3⟩ : Mv)]) ++ [(⟨l[k].v, p6, cc6⟩ : Mv)], some ⟨g7, 0, none⟩, c7, true, by omega, by go_num, by simp, rfl, by first | (rw [List.length_append]; exact T7) | (simpa using T7), BX, HN.out, G7⟩
          case measure => simp [intOf]; omega
        · have hlx : depLessB x.key x.time x.site l[k].v.key l[k].v.time l[k].v.site = false := by rw [← vLess_dep]; exact vLess_as hl
          have HL := Lib.hid hl
          clear hl
          go_wp2
          refine region_over (by kernel_rfl) (by kernel_rfl) ?_
          repeat (go_big_quiet_step ((go_at_call 111; exact quiet_over (bool_is hlx (l3Less_spec _ _ _ _ _ _ _ _ _ _ _ _ _ _ _ _ _ _ _)))))
          refine wpQuiet_nil ?_
          intro w9 hb9
          have T := T.below hb9
          have BX := BX.below hb9 BX.lt
          have hBw := below_after hBw hb9
          have hv := hv.below hb9
          have hwz9 := hb9.size

          clear hlx
          obtain ⟨b, off, hab, hbl, c0, c1, c2, c3, c4, c5, c6⟩ := hv.at_ k hlt
          first | (simp only [Option.some.injEq, Addr.mk.injEq, and_true] at hab; obtain ⟨rfl, rfl⟩ := hab) | subst hab
          obtain ⟨x0, x1, x2, x3, x4, x5, x6, xf, xl⟩ := BX.seven

          have hltL := T.lts
          go_wp2_with fail
          refine (l2Copy_spec l[k].v l[k].a l[k].c _ (hv.get k hlt) (hf.get k hlt)).mono ?_
          rintro e w6 ⟨p6, cc6, rfl, own6, hb6⟩
          have T6 := T.below hb6
          have BX := BX.below hb6 BX.lt
          have G6 := below_after hBw hb6
          have hz6 := hb6.size
          have hs6 := G6.size
          go_wp2_with (at_builtin; refine wpList_append_lies _ rfl (.tmp 30) (.tmp 36) 39 rfl (w.heap.size + 1) 27 i0 _ 7 72 Try.underlying39 hi hz0 hz1 hz2 rfl (by decide) _ _ _ rfl (T6.own.alloc _) _ 1 1 (mvC ⟨l[k].v, p6, cc6⟩) rfl rfl (by exact cells_at _ _ _ rfl rfl) (by exact mvC_one _) (by omega) (by unfold maxLen; omega) (by omega) (by simp; omega) _ rfl ?_)
          intro g7 c7 w7 own7 hg7 hor7 hlt7
          have T7 := OwnVers.app (m := ⟨l[k].v, p6, cc6⟩) (T6.below (below_box _ (.cells #[.int .i64 l[k].v.key, .int .i64 l[k].v.time, .int .i64 l[k].v.site, .int .i64 l[k].v.val, .int .i64 l[k].v.client, .int .i64 l[k].v.call, .slice p6 l[k].v.deps.length cc6] 27))) own7 (by simp only [List.length_append, List.length_cons, List.length_nil]) (mvsC_snoc _ _).symm hg7 (own_below own6 (below_box _ (.cells #[.int .i64 l[k].v.key, .int .i64 l[k].v.time, .int .i64 l[k].v.site, .int .i64 l[k].v.val, .int .i64 l[k].v.client, .int .i64 l[k].v.call, .slice p6 l[k].v.deps.length cc6] 27))) (by omega) (fun x hx b hb => by have := hltL x hx b hb; simp; omega)
          have hbx7 : Below (w.heap.size + 1) w6 w7 := below_app ((Below.refl _ _).alloc (by omega) (.cells #[.int .i64 l[k].v.key, .int .i64 l[k].v.time, .int .i64 l[k].v.site, .int .i64 l[k].v.val, .int .i64 l[k].v.client, .int .i64 l[k].v.call, .slice p6 l[k].v.deps.length cc6] 27)) (own_below T6.own (below_box _ (.cells #[.int .i64 l[k].v.key, .int .i64 l[k].v.time, .int .i64 l[k].v.site, .int .i64 l[k].v.val, .int .i64 l[k].v.client, .int .i64 l[k].v.call, .slice p6 l[k].v.deps.length cc6] 27))) hg7 (Nat.le_refl _) (by simp; omega)
          have G7 := G6.trans (hbx7.mono (by omega))
          have BX := BX.below hbx7 (by omega)
          clear own7 hg7 hor7

          have HN : Hid (VSt (vs l) x (k + 1) false (vs (A ++ [(⟨l[k].v, p6, cc6⟩ : Mv)]))) := by
            show VSt _ _ _ _ _
            have h := HS.out.pass hkv (by rw [vs_get l k hlt]; exact HL.out)
            rw [vs_get l k hlt] at h
            rw [vs_snoc]; first | exact h | (rw [vs_snoc]; exact h)
          go_wp2
          go_roundw
          case rel => exact ⟨k + 1, A ++ [(⟨l[k].v, p6, cc6⟩ : Mv)], some ⟨g7, 0, none⟩, c7, false, by omega, by go_num, by simp, rfl, by first | (rw [List.length_append]; exact T7) | (simpa using T7), BX, HN.out, G7⟩
          case measure => simp [intOf]; omega
    · obtain rfl : k = l.length := by omega
      cases db with
      | true =>
        have HN : Hid (vs A = putV (vs l) x) := VSt.done (by have := HS.out; rwa [← vs_len l] at this)
        go_wp2
        go_ret
        exact ⟨_, A, rfl, HN.out, T.base (by omega), hBw⟩
      | false =>
        obtain ⟨x0, x1, x2, x3, x4, x5, x6, xf, xl⟩ := BX.seven
        have hltX := T.lts
        go_wp2_with fail
        refine (l2Copy_spec x ax cx _ (hd.below hBw) hxl).mono ?_
        rintro e w3 ⟨p3, cc3, rfl, own3, hb3⟩
        have T3 := T.below hb3
        have BX := BX.below hb3 BX.lt
        have G3 := below_after hBw hb3
        have hz3 := hb3.size
        have hs3 := G3.size
        go_wp2_with (at_builtin; refine wpList_append_lies _ rfl (.tmp 40) (.tmp 43) 39 rfl (w.heap.size + 1) 27 i0 _ 7 72 Try.underlying39 hi hz0 hz1 hz2 rfl (by decide) _ _ _ rfl (T3.own.alloc _) _ 1 1 (mvC ⟨x, p3, cc3⟩) rfl rfl (by exact cells_at _ _ _ rfl rfl) (by exact mvC_one _) (by omega) (by unfold maxLen; omega) (by omega) (by simp; omega) _ rfl ?_)
        intro g5 c5 w5 own5 hg5 hor5 hlt5
        have T5 := OwnVers.app (m := ⟨x, p3, cc3⟩) (T3.below (below_box _ (.cells #[.int .i64 x.key, .int .i64 x.time, .int .i64 x.site, .int .i64 x.val, .int .i64 x.client, .int .i64 x.call, .slice p3 x.deps.length cc3] 27))) own5 (by simp only [List.length_append, List.length_cons, List.length_nil]) (mvsC_snoc _ _).symm hg5 (own_below own3 (below_box _ (.cells #[.int .i64 x.key, .int .i64 x.time, .int .i64 x.site, .int .i64 x.val, .int .i64 x.client, .int .i64 x.call, .slice p3 x.deps.length cc3] 27))) (by omega) (fun x hx b hb => by have := hltX x hx b hb; simp; omega)
        have hbx5 : Below (w.heap.size + 1) w3 w5 := below_app ((Below.refl _ _).alloc (by omega) (.cells #[.int .i64 x.key, .int .i64 x.time, .int .i64 x.site, .int .i64 x.val, .int .i64 x.client, .int .i64 x.call, .slice p3 x.deps.length cc3] 27)) (own_below T3.own (below_box _ (.cells #[.int .i64 x.key, .int .i64 x.time, .int .i64 x.site, .int .i64 x.val, .int .i64 x.client, .int .i64 x.call, .slice p3 x.deps.length cc3] 27))) hg5 (Nat.le_refl _) (by simp; omega)
        have G5 := G3.trans (hbx5.mono (by omega))
        have BX := BX.below hbx5 (by omega)
        have hz5 := hbx5.size
        clear own5 hg5 hor5

        have HN : Hid (vs (A ++ [(⟨x, p3, cc3⟩ : Mv)]) = putV (vs l) x) := by show _ = _; rw [vs_snoc]; exact VSt.out (by have := HS.out; rwa [← vs_len l] at this)
        go_wp2
        go_ret
        exact ⟨_, A ++ [(⟨x, p3, cc3⟩ : Mv)], rfl, HN.out, T5.base (by omega), G5⟩

end Go.Proofs.Ythciikogogkfcaa
