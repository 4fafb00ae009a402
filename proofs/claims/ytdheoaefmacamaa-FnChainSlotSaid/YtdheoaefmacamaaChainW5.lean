/- A slot's versions, and all others: the program's functions and the reference's. -/
import Derived.Test.YtdheoaefmacamaaChainW2
import Derived.Test.YtdheoaefmacamaaTwo
namespace Go.Proofs.Ytdheoaefmacamaa
open Go.RowKit Go.Deep
set_option linter.unusedVariables false

theorem filt_yes {l : List Mv} {p : Vp → Bool} {k : Nat} {A : List Mv} {m : Mv} (hk : k < l.length) (hA : vs A = ((vs l).take k).filter p) (hm : m.v = l[k].v) (hp : p l[k].v = true) : vs (A ++ [m]) = ((vs l).take (k + 1)).filter p := by
  rw [vs_snoc, hA, hm, List.take_succ_eq_append_getElem (by rw [vs_len]; exact hk), List.filter_append, vs_get l k hk]
  simp [hp]
theorem filt_no {l : List Mv} {p : Vp → Bool} {k : Nat} {A : List Mv} (hk : k < l.length) (hA : vs A = ((vs l).take k).filter p) (hp : p l[k].v = false) : vs A = ((vs l).take (k + 1)).filter p := by
  rw [hA, List.take_succ_eq_append_getElem (by rw [vs_len]; exact hk), List.filter_append, vs_get l k hk]
  simp [hp]

theorem infoVer5 : (Try.prog.info? 35).map (fun i => (i.zero, i.size, i.bytes)) = some (some (.agg #[.int .i64 0, .int .i64 0, .int .i64 0, .int .i64 0, .int .i64 0, .int .i64 0, .slice none 0 0]), 7, 72) := by kernel_rfl
set_option maxRecDepth 100000 in
set_option maxHeartbeats 4000000 in
theorem ofSlot_impl (l : List Mv) (slot : Int) (a : Option Addr) (c : Nat) (w : World) (hvs : Vers w a c l) (hf : Few l) :
    Calls Try.prog 29 #[.slice a l.length c, .int .i64 slot] w (GivesTwo ((vs l).filter (inSlot slot)) ((vs l).filter (fun v => !inSlot slot v)) w) := by
  obtain ⟨i0, hi, hz0, hz1, hz2⟩ := info_parts infoVer5
  have hf1 := hf.1
  go_enter Try.func29, Try.ntmps29
  go_wp2
  go_loopw [6, 7, 12] (fun v u i wr => ∃ (k : Nat) (A B : List Mv) (pa : Option Addr) (ca : Nat) (pb : Option Addr) (cb : Nat), k ≤ l.length ∧ i = .int .i64 k ∧ v = .slice pa A.length ca ∧ u = .slice pb B.length cb ∧ A.length + B.length ≤ k ∧ vs A = ((vs l).take k).filter (inSlot slot) ∧ vs B = ((vs l).take k).filter (fun v => !inSlot slot v) ∧ OwnTwo w.heap.size wr (.slice pa A.length ca) (.slice pb B.length cb) A B ∧ Below w.heap.size w wr) (fun _ _ i _ => l.length - (intOf i).toNat)
  case atStart => exact ⟨0, [], [], none, 0, none, 0, Nat.zero_le _, rfl, rfl, rfl, Nat.zero_le _, by simp [vs], by simp [vs], OwnTwo.nil _ _, Below.refl _ _⟩
  case round =>
    obtain ⟨k, A, B, pa, ca, pb, cb, hk, rfl, rfl, rfl, hAB, hvA, hvB, T, hBw⟩ := hrel
    have HA := Lib.hid hvA
    have HB := Lib.hid hvB
    clear hvA hvB
    have hwz := hBw.size
    by_cases hlt : k < l.length
    · have hv := hvs.below hBw
      have hi0 : (0 : Int) ≤ (k : Int) := by omega
      have hi1 : (k : Int) < (l.length : Int) := by omega
      have hdk := hv.get k hlt
      have hlts := T.lts
      obtain ⟨b, off, hab, hbl, c0, c1, c2, c3, c4, c5, c6⟩ := hv.at_ k hlt
      subst hab
      have hdk := hdk.alloc (.cells #[.int .i64 l[k].v.key, .int .i64 l[k].v.time, .int .i64 l[k].v.site, .int .i64 l[k].v.val, .int .i64 l[k].v.client, .int .i64 l[k].v.call, .slice l[k].a l[k].v.deps.length l[k].c] 35)
      have T := T.below (below_box _ (.cells #[.int .i64 l[k].v.key, .int .i64 l[k].v.time, .int .i64 l[k].v.site, .int .i64 l[k].v.val, .int .i64 l[k].v.client, .int .i64 l[k].v.call, .slice l[k].a l[k].v.deps.length l[k].c] 35))
      have BE := Blk.new wr #[.int .i64 l[k].v.key, .int .i64 l[k].v.time, .int .i64 l[k].v.site, .int .i64 l[k].v.val, .int .i64 l[k].v.client, .int .i64 l[k].v.call, .slice l[k].a l[k].v.deps.length l[k].c] 35
      obtain ⟨q0, q1, q2, q3, q4, q5, q6, qf, ql⟩ := BE.seven
      have G0 := below_alloc hBw (.cells #[.int .i64 l[k].v.key, .int .i64 l[k].v.time, .int .i64 l[k].v.site, .int .i64 l[k].v.val, .int .i64 l[k].v.client, .int .i64 l[k].v.call, .slice l[k].a l[k].v.deps.length l[k].c] 35)
      by_cases hs : verSlotI l[k].v.key = slot
      · have hs' : (verSlotI l[k].v.key == slot) = true := by simpa using hs
        have HI : Hid (inSlot slot l[k].v = true) := by show _ = _; simp [inSlot, hs]
        have HJ : Hid ((fun v => !inSlot slot v) l[k].v = false) := by show _ = _; simp [inSlot, hs]
        clear hs
        go_wp2_with fail
        refine (verSlot_impl _ _).mono ?_
        rintro e w' ⟨rfl, rfl⟩
        go_wp2_with fail
        refine (clone_impl l[k].v l[k].a l[k].c _ hdk (hf.get k hlt)).mono ?_
        rintro e w3 ⟨p3, cc3, rfl, own3, hb3⟩
        have T3 := T.below hb3
        have G3 := below_after G0 hb3
        have hs3 := G3.size
        go_wp2_with (at_builtin; refine wpList_append_lies _ rfl (.tmp 21) (.tmp 24) 23 rfl w.heap.size 35 i0 _ 7 72 Try.underlying23 hi hz0 hz1 hz2 rfl (by decide) _ _ _ rfl (T3.ra.alloc _) _ 1 1 (mvC ⟨l[k].v, p3, cc3⟩) rfl rfl (by exact cells_at _ _ _ rfl rfl) (by exact mvC_one _) (by omega) (by unfold maxLen; omega) (by omega) (by simp; omega) _ rfl ?_)
        intro g5 c5 w5 own5 hg5 hor5 hlt5
        have T5 := OwnTwo.app (m := ⟨l[k].v, p3, cc3⟩) ((T3).below (below_box _ (.cells #[.int .i64 l[k].v.key, .int .i64 l[k].v.time, .int .i64 l[k].v.site, .int .i64 l[k].v.val, .int .i64 l[k].v.client, .int .i64 l[k].v.call, .slice p3 l[k].v.deps.length cc3] 35))) own5 (by simp) (by rw [mvsC_snoc]) hg5 hor5 (by simp) (own_below own3 (below_box _ (.cells #[.int .i64 l[k].v.key, .int .i64 l[k].v.time, .int .i64 l[k].v.site, .int .i64 l[k].v.val, .int .i64 l[k].v.client, .int .i64 l[k].v.call, .slice p3 l[k].v.deps.length cc3] 35))) (by omega) (fun x hx b hb => by have := hlts x hx b hb; simp; omega)
        have G5 := below_app (below_alloc G3 (.cells #[.int .i64 l[k].v.key, .int .i64 l[k].v.time, .int .i64 l[k].v.site, .int .i64 l[k].v.val, .int .i64 l[k].v.client, .int .i64 l[k].v.call, .slice p3 l[k].v.deps.length cc3] 35)) (own_below T3.ra (below_box _ (.cells #[.int .i64 l[k].v.key, .int .i64 l[k].v.time, .int .i64 l[k].v.site, .int .i64 l[k].v.val, .int .i64 l[k].v.client, .int .i64 l[k].v.call, .slice p3 l[k].v.deps.length cc3] 35))) hg5 (Nat.le_refl _) (by simp; omega)
        have HA5 := Lib.hid (filt_yes (m := ⟨l[k].v, p3, cc3⟩) hlt HA.out rfl HI.out)
        have HB5 := Lib.hid (filt_no hlt HB.out HJ.out)
        clear own5 hg5 hor5
        go_wp2
        go_roundw
        case rel => exact ⟨k + 1, A ++ [(⟨l[k].v, p3, cc3⟩ : Mv)], B, some ⟨g5, 0, none⟩, c5, pb, cb, by omega, by go_num, by simp, rfl, by simp; omega, HA5.out, HB5.out, by rw [List.length_append]; exact T5, G5⟩
        case measure => simp [intOf]; omega
      · have hs' : (verSlotI l[k].v.key == slot) = false := by simpa using hs
        have HI : Hid (inSlot slot l[k].v = false) := by show _ = _; simp [inSlot, hs]
        have HJ : Hid ((fun v => !inSlot slot v) l[k].v = true) := by show _ = _; simp [inSlot, hs]
        clear hs
        go_wp2_with fail
        refine (verSlot_impl _ _).mono ?_
        rintro e w' ⟨rfl, rfl⟩
        go_wp2_with fail
        refine (clone_impl l[k].v l[k].a l[k].c _ hdk (hf.get k hlt)).mono ?_
        rintro e w3 ⟨p3, cc3, rfl, own3, hb3⟩
        have T3 := T.below hb3
        have G3 := below_after G0 hb3
        have hs3 := G3.size
        go_wp2_with (at_builtin; refine wpList_append_lies _ rfl (.tmp 26) (.tmp 29) 23 rfl w.heap.size 35 i0 _ 7 72 Try.underlying23 hi hz0 hz1 hz2 rfl (by decide) _ _ _ rfl (T3.rb.alloc _) _ 1 1 (mvC ⟨l[k].v, p3, cc3⟩) rfl rfl (by exact cells_at _ _ _ rfl rfl) (by exact mvC_one _) (by omega) (by unfold maxLen; omega) (by omega) (by simp; omega) _ rfl ?_)
        intro g5 c5 w5 own5 hg5 hor5 hlt5
        have T5 := OwnTwo.app (m := ⟨l[k].v, p3, cc3⟩) ((T3.swap).below (below_box _ (.cells #[.int .i64 l[k].v.key, .int .i64 l[k].v.time, .int .i64 l[k].v.site, .int .i64 l[k].v.val, .int .i64 l[k].v.client, .int .i64 l[k].v.call, .slice p3 l[k].v.deps.length cc3] 35))) own5 (by simp) (by rw [mvsC_snoc]) hg5 hor5 (by simp) (own_below own3 (below_box _ (.cells #[.int .i64 l[k].v.key, .int .i64 l[k].v.time, .int .i64 l[k].v.site, .int .i64 l[k].v.val, .int .i64 l[k].v.client, .int .i64 l[k].v.call, .slice p3 l[k].v.deps.length cc3] 35))) (by omega) (fun x hx b hb => by have := hlts x (by simp only [List.mem_append] at hx ⊢; exact hx.symm) b hb; simp; omega)
        have G5 := below_app (below_alloc G3 (.cells #[.int .i64 l[k].v.key, .int .i64 l[k].v.time, .int .i64 l[k].v.site, .int .i64 l[k].v.val, .int .i64 l[k].v.client, .int .i64 l[k].v.call, .slice p3 l[k].v.deps.length cc3] 35)) (own_below T3.rb (below_box _ (.cells #[.int .i64 l[k].v.key, .int .i64 l[k].v.time, .int .i64 l[k].v.site, .int .i64 l[k].v.val, .int .i64 l[k].v.client, .int .i64 l[k].v.call, .slice p3 l[k].v.deps.length cc3] 35))) hg5 (Nat.le_refl _) (by simp; omega)
        have HA5 := Lib.hid (filt_no hlt HA.out HI.out)
        have HB5 := Lib.hid (filt_yes (m := ⟨l[k].v, p3, cc3⟩) hlt HB.out rfl HJ.out)
        clear own5 hg5 hor5
        go_wp2
        go_roundw
        case rel => exact ⟨k + 1, A, B ++ [(⟨l[k].v, p3, cc3⟩ : Mv)], pa, ca, some ⟨g5, 0, none⟩, c5, by omega, by go_num, rfl, by simp, by simp; omega, HA5.out, HB5.out, by rw [List.length_append]; exact T5.swap, G5⟩
        case measure => simp [intOf]; omega
    · obtain rfl : k = l.length := by omega
      have HA : Hid (vs A = (vs l).filter (inSlot slot)) := by have := HA.out; rwa [← vs_len l, List.take_length] at this
      have HB : Hid (vs B = (vs l).filter (fun v => !inSlot slot v)) := by have := HB.out; rwa [← vs_len l, List.take_length] at this
      go_wp2
      go_ret2
      exact ⟨_, _, A, B, rfl, HA.out, HB.out, T, hBw⟩

theorem slot_no {l : List Vp} (slot : Int) (h : chainOkB l = false) : [] = slotIn l slot ∧ [] = slotOut l slot := by simp [slotIn, slotOut, h]
theorem slot_yes {l : List Vp} (slot : Int) (h : chainOkB l = true) : l.filter (inSlot slot) = slotIn l slot ∧ l.filter (fun v => !inSlot slot v) = slotOut l slot := by simp [slotIn, slotOut, h]
set_option maxRecDepth 100000 in
set_option maxHeartbeats 4000000 in
theorem ChainSlot_spec (l : List Mv) (slot : Int) (a : Option Addr) (c : Nat) (w : World) (hvs : Vers w a c l) (hf : Few l) :
    Calls Try.prog 7 #[.slice a l.length c, .int .i64 slot] w (GivesTwo (slotIn (vs l) slot) (slotOut (vs l) slot) w) := by
  obtain ⟨i0, hi, hz0, hz1, hz2⟩ := info_parts infoVer5
  have hf1 := hf.1
  have T0 := OwnTwo.made w
  have G0 := below_box2 w (.cells #[] 35) (.cells #[] 35)
  go_enter Try.func7, Try.ntmps7
  go_wp2_with fail
  refine (ChainOk_spec l a c _ (hvs.below G0) hf).mono ?_
  rintro e w2 ⟨rfl, hb2⟩
  have T0 := T0.below hb2
  have G2 := below_after G0 hb2
  rcases hok : chainOkB (vs l) with _ | _
  · have HN := Lib.hid (slot_no slot hok)
    go_wp2
    go_ret2
    exact ⟨_, _, [], [], rfl, HN.out.1, HN.out.2, T0, G2⟩
  have HK := Lib.hid (slot_yes slot hok)
  clear hok
  go_wp2
  go_loopw [6, 7, 8] (fun v u i wr => ∃ (k : Nat) (A B : List Mv) (pa : Option Addr) (ca : Nat) (pb : Option Addr) (cb : Nat), k ≤ l.length ∧ i = .int .i64 k ∧ v = .slice pa A.length ca ∧ u = .slice pb B.length cb ∧ A.length + B.length ≤ k ∧ vs A = ((vs l).take k).filter (inSlot slot) ∧ vs B = ((vs l).take k).filter (fun v => !inSlot slot v) ∧ OwnTwo w.heap.size wr (.slice pa A.length ca) (.slice pb B.length cb) A B ∧ Below w.heap.size w wr) (fun _ _ i _ => l.length - (intOf i).toNat)
  case atStart => exact ⟨0, [], [], _, 0, _, 0, Nat.zero_le _, rfl, rfl, rfl, Nat.zero_le _, by simp [vs], by simp [vs], T0, G2⟩
  case round =>
    obtain ⟨k, A, B, pa, ca, pb, cb, hk, rfl, rfl, rfl, hAB, hvA, hvB, T, hBw⟩ := hrel
    have HA := Lib.hid hvA
    have HB := Lib.hid hvB
    clear hvA hvB
    have hwz := hBw.size
    by_cases hlt : k < l.length
    · have hv := hvs.below hBw
      have hi0 : (0 : Int) ≤ (k : Int) := by omega
      have hi1 : (k : Int) < (l.length : Int) := by omega
      have hdk := hv.get k hlt
      have hlts := T.lts
      obtain ⟨b, off, hab, hbl, c0, c1, c2, c3, c4, c5, c6⟩ := hv.at_ k hlt
      subst hab
      have G0 := hBw
      by_cases hs : verSlotI l[k].v.key = slot
      · have hs' : (verSlotI l[k].v.key == slot) = true := by simpa using hs
        have HI : Hid (inSlot slot l[k].v = true) := by show _ = _; simp [inSlot, hs]
        have HJ : Hid ((fun v => !inSlot slot v) l[k].v = false) := by show _ = _; simp [inSlot, hs]
        clear hs
        go_wp2_with fail
        refine (verSlot_spec _ _).mono ?_
        rintro e w' ⟨rfl, rfl⟩
        go_wp2_with fail
        refine (l2Copy_spec l[k].v l[k].a l[k].c _ hdk (hf.get k hlt)).mono ?_
        rintro e w3 ⟨p3, cc3, rfl, own3, hb3⟩
        have T3 := T.below hb3
        have G3 := below_after G0 hb3
        have hs3 := G3.size
        go_wp2_with (at_builtin; refine wpList_append_lies _ rfl (.tmp 30) (.tmp 36) 23 rfl w.heap.size 35 i0 _ 7 72 Try.underlying23 hi hz0 hz1 hz2 rfl (by decide) _ _ _ rfl (T3.ra.alloc _) _ 1 1 (mvC ⟨l[k].v, p3, cc3⟩) rfl rfl (by exact cells_at _ _ _ rfl rfl) (by exact mvC_one _) (by omega) (by unfold maxLen; omega) (by omega) (by simp; omega) _ rfl ?_)
        intro g5 c5 w5 own5 hg5 hor5 hlt5
        have T5 := OwnTwo.app (m := ⟨l[k].v, p3, cc3⟩) ((T3).below (below_box _ (.cells #[.int .i64 l[k].v.key, .int .i64 l[k].v.time, .int .i64 l[k].v.site, .int .i64 l[k].v.val, .int .i64 l[k].v.client, .int .i64 l[k].v.call, .slice p3 l[k].v.deps.length cc3] 35))) own5 (by simp) (by rw [mvsC_snoc]) hg5 hor5 (by simp) (own_below own3 (below_box _ (.cells #[.int .i64 l[k].v.key, .int .i64 l[k].v.time, .int .i64 l[k].v.site, .int .i64 l[k].v.val, .int .i64 l[k].v.client, .int .i64 l[k].v.call, .slice p3 l[k].v.deps.length cc3] 35))) (by omega) (fun x hx b hb => by have := hlts x hx b hb; simp; omega)
        have G5 := below_app (below_alloc G3 (.cells #[.int .i64 l[k].v.key, .int .i64 l[k].v.time, .int .i64 l[k].v.site, .int .i64 l[k].v.val, .int .i64 l[k].v.client, .int .i64 l[k].v.call, .slice p3 l[k].v.deps.length cc3] 35)) (own_below T3.ra (below_box _ (.cells #[.int .i64 l[k].v.key, .int .i64 l[k].v.time, .int .i64 l[k].v.site, .int .i64 l[k].v.val, .int .i64 l[k].v.client, .int .i64 l[k].v.call, .slice p3 l[k].v.deps.length cc3] 35))) hg5 (Nat.le_refl _) (by simp; omega)
        have HA5 := Lib.hid (filt_yes (m := ⟨l[k].v, p3, cc3⟩) hlt HA.out rfl HI.out)
        have HB5 := Lib.hid (filt_no hlt HB.out HJ.out)
        clear own5 hg5 hor5
        go_wp2
        go_roundw
        case rel => exact ⟨k + 1, A ++ [(⟨l[k].v, p3, cc3⟩ : Mv)], B, some ⟨g5, 0, none⟩, c5, pb, cb, by omega, by go_num, by simp, rfl, by simp; omega, HA5.out, HB5.out, by rw [List.length_append]; exact T5, G5⟩
        case measure => simp [intOf]; omega
      · have hs' : (verSlotI l[k].v.key == slot) = false := by simpa using hs
        have HI : Hid (inSlot slot l[k].v = false) := by show _ = _; simp [inSlot, hs]
        have HJ : Hid ((fun v => !inSlot slot v) l[k].v = true) := by show _ = _; simp [inSlot, hs]
        clear hs
        go_wp2_with fail
        refine (verSlot_spec _ _).mono ?_
        rintro e w' ⟨rfl, rfl⟩
        go_wp2_with fail
        refine (l2Copy_spec l[k].v l[k].a l[k].c _ hdk (hf.get k hlt)).mono ?_
        rintro e w3 ⟨p3, cc3, rfl, own3, hb3⟩
        have T3 := T.below hb3
        have G3 := below_after G0 hb3
        have hs3 := G3.size
        go_wp2_with (at_builtin; refine wpList_append_lies _ rfl (.tmp 38) (.tmp 44) 23 rfl w.heap.size 35 i0 _ 7 72 Try.underlying23 hi hz0 hz1 hz2 rfl (by decide) _ _ _ rfl (T3.rb.alloc _) _ 1 1 (mvC ⟨l[k].v, p3, cc3⟩) rfl rfl (by exact cells_at _ _ _ rfl rfl) (by exact mvC_one _) (by omega) (by unfold maxLen; omega) (by omega) (by simp; omega) _ rfl ?_)
        intro g5 c5 w5 own5 hg5 hor5 hlt5
        have T5 := OwnTwo.app (m := ⟨l[k].v, p3, cc3⟩) ((T3.swap).below (below_box _ (.cells #[.int .i64 l[k].v.key, .int .i64 l[k].v.time, .int .i64 l[k].v.site, .int .i64 l[k].v.val, .int .i64 l[k].v.client, .int .i64 l[k].v.call, .slice p3 l[k].v.deps.length cc3] 35))) own5 (by simp) (by rw [mvsC_snoc]) hg5 hor5 (by simp) (own_below own3 (below_box _ (.cells #[.int .i64 l[k].v.key, .int .i64 l[k].v.time, .int .i64 l[k].v.site, .int .i64 l[k].v.val, .int .i64 l[k].v.client, .int .i64 l[k].v.call, .slice p3 l[k].v.deps.length cc3] 35))) (by omega) (fun x hx b hb => by have := hlts x (by simp only [List.mem_append] at hx ⊢; exact hx.symm) b hb; simp; omega)
        have G5 := below_app (below_alloc G3 (.cells #[.int .i64 l[k].v.key, .int .i64 l[k].v.time, .int .i64 l[k].v.site, .int .i64 l[k].v.val, .int .i64 l[k].v.client, .int .i64 l[k].v.call, .slice p3 l[k].v.deps.length cc3] 35)) (own_below T3.rb (below_box _ (.cells #[.int .i64 l[k].v.key, .int .i64 l[k].v.time, .int .i64 l[k].v.site, .int .i64 l[k].v.val, .int .i64 l[k].v.client, .int .i64 l[k].v.call, .slice p3 l[k].v.deps.length cc3] 35))) hg5 (Nat.le_refl _) (by simp; omega)
        have HA5 := Lib.hid (filt_no hlt HA.out HI.out)
        have HB5 := Lib.hid (filt_yes (m := ⟨l[k].v, p3, cc3⟩) hlt HB.out rfl HJ.out)
        clear own5 hg5 hor5
        go_wp2
        go_roundw
        case rel => exact ⟨k + 1, A, B ++ [(⟨l[k].v, p3, cc3⟩ : Mv)], pa, ca, some ⟨g5, 0, none⟩, c5, by omega, by go_num, rfl, by simp, by simp; omega, HA5.out, HB5.out, by rw [List.length_append]; exact T5.swap, G5⟩
        case measure => simp [intOf]; omega
    · obtain rfl : k = l.length := by omega
      have HA : Hid (vs A = (vs l).filter (inSlot slot)) := by have := HA.out; rwa [← vs_len l, List.take_length] at this
      have HB : Hid (vs B = (vs l).filter (fun v => !inSlot slot v)) := by have := HB.out; rwa [← vs_len l, List.take_length] at this
      go_wp2
      go_ret2
      exact ⟨_, _, A, B, rfl, HA.out.trans HK.out.1, HB.out.trans HK.out.2, T, hBw⟩

set_option maxHeartbeats 1000000 in
theorem ChainSlot_impl (l : List Mv) (slot : Int) (a : Option Addr) (c : Nat) (w : World) (hvs : Vers w a c l) (hf : Few l) :
    Calls Try.prog 8 #[.slice a l.length c, .int .i64 slot] w (GivesTwo (slotIn (vs l) slot) (slotOut (vs l) slot) w) := by
  go_enter Try.func8, Try.ntmps8
  go_wp2_with fail
  refine (ChainOk_impl l a c _ hvs hf).mono ?_
  rintro e w1 ⟨rfl, hb1⟩
  rcases hok : chainOkB (vs l) with _ | _
  · have HN := Lib.hid (slot_no slot hok)
    go_wp2
    go_ret2
    exact ⟨_, _, [], [], rfl, HN.out.1, HN.out.2, OwnTwo.nil _ _, hb1⟩
  have HK := Lib.hid (slot_yes slot hok)
  have sz1 := hb1.size
  go_wp2_with fail
  refine (ofSlot_impl l slot a c _ (hvs.below hb1) hf).mono ?_
  rintro e w2 ⟨v, u, A, B, rfl, hA, hB, T, hb2⟩
  go_wp2
  go_ret2
  exact ⟨_, _, A, B, rfl, hA.trans HK.out.1, hB.trans HK.out.2, T.base sz1, below_after hb1 hb2⟩

end Go.Proofs.Ytdheoaefmacamaa
