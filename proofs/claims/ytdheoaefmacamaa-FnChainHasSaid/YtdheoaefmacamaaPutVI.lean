/- A version put among versions: the program's own way. -/
import Derived.Test.YtdheoaefmacamaaPutV2
import Derived.Test.YtdheoaefmacamaaInsert
import Derived.Deep.RegionHeld3
namespace Go.Proofs.Ytdheoaefmacamaa
open Go.RowKit Go.Deep
set_option linter.unusedVariables false

set_option maxRecDepth 100000 in
set_option maxHeartbeats 4000000 in
theorem cloneChain_impl (l : List Mv) (a : Option Addr) (c : Nat) (w : World) (hvs : Vers w a c l) (hf : Few l) :
    Calls Try.prog 35 #[.slice a l.length c] w (ToVers (vs l) w) := by
  obtain ⟨i0, hi, hz0, hz1, hz2⟩ := info_parts infoVerP
  have hf1 := hf.1
  go_enter Try.func35, Try.ntmps35
  go_wp2
  go_loopw [3, 8] (fun v i wr => ∃ (k : Nat) (A : List Mv) (pa : Option Addr) (ca : Nat), k ≤ l.length ∧ i = .int .i64 k ∧ v = .slice pa A.length ca ∧ A.length = k ∧ vs A = (vs l).take k ∧ OwnVers w.heap.size wr (.slice pa A.length ca) A ∧ Below w.heap.size w wr) (fun _ i _ => l.length - (intOf i).toNat)
  case atStart => exact ⟨0, [], none, 0, Nat.zero_le _, rfl, rfl, rfl, rfl, OwnVers.nil _ _, Below.refl _ _⟩
  case round =>
    obtain ⟨k, A, pa, ca, hk, rfl, rfl, hAk, hvA, T, hBw⟩ := hrel
    have HA := Lib.hid hvA
    have HK := Lib.hid hAk
    clear hvA hAk
    have hwz := hBw.size
    by_cases hlt : k < l.length
    · have hv := hvs.below hBw
      have hi0 : (0 : Int) ≤ (k : Int) := by omega
      have hi1 : (k : Int) < (l.length : Int) := by omega
      have hdk := hv.get k hlt
      have hlts := T.lts
      have HE := Lib.hid (vs_get l k hlt)
      obtain ⟨b, off, hab, hbl, c0, c1, c2, c3, c4, c5, c6⟩ := hv.at_ k hlt
      subst hab
      have hdk := hdk.alloc (.cells #[.int .i64 l[k].v.key, .int .i64 l[k].v.time, .int .i64 l[k].v.site, .int .i64 l[k].v.val, .int .i64 l[k].v.client, .int .i64 l[k].v.call, .slice l[k].a l[k].v.deps.length l[k].c] 35)
      have T := T.below (below_box _ (.cells #[.int .i64 l[k].v.key, .int .i64 l[k].v.time, .int .i64 l[k].v.site, .int .i64 l[k].v.val, .int .i64 l[k].v.client, .int .i64 l[k].v.call, .slice l[k].a l[k].v.deps.length l[k].c] 35))
      have BE := Blk.new wr #[.int .i64 l[k].v.key, .int .i64 l[k].v.time, .int .i64 l[k].v.site, .int .i64 l[k].v.val, .int .i64 l[k].v.client, .int .i64 l[k].v.call, .slice l[k].a l[k].v.deps.length l[k].c] 35
      obtain ⟨q0, q1, q2, q3, q4, q5, q6, qf, ql⟩ := BE.seven
      have G0 := below_alloc hBw (.cells #[.int .i64 l[k].v.key, .int .i64 l[k].v.time, .int .i64 l[k].v.site, .int .i64 l[k].v.val, .int .i64 l[k].v.client, .int .i64 l[k].v.call, .slice l[k].a l[k].v.deps.length l[k].c] 35)
      go_wp2_with fail
      refine (clone_impl l[k].v l[k].a l[k].c _ hdk (hf.get k hlt)).mono ?_
      rintro e w3 ⟨p3, cc3, rfl, own3, hb3⟩
      have T3 := T.below hb3
      have G3 := below_after G0 hb3
      have hAk : A.length ≤ 1048577 := by have := HK.out; omega
      have hs3 := G3.size
      go_wp2_with (at_builtin; refine wpList_append_lies _ rfl (.tmp 12) (.tmp 15) 23 rfl (w.heap.size) 35 i0 _ 7 72 Try.underlying23 hi hz0 hz1 hz2 rfl (by decide) _ _ _ rfl (T3.own.alloc _) _ 1 1 (mvC ⟨l[k].v, p3, cc3⟩) rfl rfl (by exact cells_at _ _ _ rfl rfl) (by exact mvC_one _) (by omega) (by unfold maxLen; omega) (by omega) (by simp; omega) _ rfl ?_)
      intro g5 c5 w5 own5 hg5 hor5 hlt5
      have T5 := OwnVers.app (m := ⟨l[k].v, p3, cc3⟩) (T3.below (below_box _ (.cells #[.int .i64 l[k].v.key, .int .i64 l[k].v.time, .int .i64 l[k].v.site, .int .i64 l[k].v.val, .int .i64 l[k].v.client, .int .i64 l[k].v.call, .slice p3 l[k].v.deps.length cc3] 35))) own5 (by simp only [List.length_append, List.length_cons, List.length_nil]) (mvsC_snoc _ _).symm hg5 (own_below own3 (below_box _ (.cells #[.int .i64 l[k].v.key, .int .i64 l[k].v.time, .int .i64 l[k].v.site, .int .i64 l[k].v.val, .int .i64 l[k].v.client, .int .i64 l[k].v.call, .slice p3 l[k].v.deps.length cc3] 35))) (by omega) (fun x hx b hb => by have := hlts x hx b hb; simp; omega)
      have hbx5 : Below (w.heap.size) w3 w5 := below_app ((Below.refl _ _).alloc (by omega) (.cells #[.int .i64 l[k].v.key, .int .i64 l[k].v.time, .int .i64 l[k].v.site, .int .i64 l[k].v.val, .int .i64 l[k].v.client, .int .i64 l[k].v.call, .slice p3 l[k].v.deps.length cc3] 35)) (own_below T3.own (below_box _ (.cells #[.int .i64 l[k].v.key, .int .i64 l[k].v.time, .int .i64 l[k].v.site, .int .i64 l[k].v.val, .int .i64 l[k].v.client, .int .i64 l[k].v.call, .slice p3 l[k].v.deps.length cc3] 35))) hg5 (Nat.le_refl _) (by simp; omega)
      have G5 := G3.trans (hbx5.mono (by omega))

      have HV : Hid (vs (A ++ [(⟨l[k].v, p3, cc3⟩ : Mv)]) = (vs l).take (k + 1)) := by
        show _ = _
        rw [vs_snoc, HA.out, List.take_succ_eq_append_getElem (by rw [vs_len]; exact hlt), HE.out]
      clear own5 hg5 hor5
      go_wp2
      go_roundw
      case rel => exact ⟨k + 1, A ++ [(⟨l[k].v, p3, cc3⟩ : Mv)], some ⟨g5, 0, none⟩, c5, by omega, by go_num, by simp, by have := HK.out; simp; omega, HV.out, by rw [List.length_append]; exact T5, G5⟩
      case measure => simp [intOf]; omega
    · obtain rfl : k = l.length := by omega
      have HV : Hid (vs A = vs l) := by have := HA.out; rwa [← vs_len l, List.take_length] at this
      go_wp2
      go_ret
      exact ⟨_, A, rfl, HV.out, T, hBw⟩

theorem insert_any (A : List Mv) (m : Mv) (N B c i : Nat) (pa : Option Addr) (w : World) (own : w.ownsRow N 35 7 (.slice pa A.length c) A.length (mvsC A)) (hB : Blk w B (mvC m).toArray 35) (hBn : (Value.slice pa A.length c).ownBlock ≠ some B) (hl : A.length ≤ 1000) (hN : N ≤ w.heap.size) (hi : i ≤ A.length) :
    Calls Try.prog 57 #[.slice pa A.length c, .int .i64 (i : Int), .slice (some ⟨B, 0, none⟩) 1 1] w (Inserted N A m i (.slice pa A.length c) w) := by
  rcases Nat.lt_or_ge i A.length with hlt | hge
  · rcases own.2 with ⟨hv, h0⟩ | ⟨g, cap, cur, hv, hg, hh, hnc, hm, hs, ht⟩
    · omega
    · simp only [Value.slice.injEq] at hv
      obtain ⟨rfl, -, rfl⟩ := hv
      have hne : B ≠ g := fun e => hBn (by rw [e]; rfl)
      by_cases hr : A.length + 1 ≤ c
      · exact insert_shift A m N B g c i cur w hh hs ht hlt hr hm hg hB hne
      · exact insert_grow A m N B g c i cur w hh hs ht hlt hnc (by omega) hl hN hB
  · obtain rfl : i = A.length := by omega
    exact insert_end A m N B c pa w own hB hl hN
theorem OwnVers.ins {N M g c' i : Nat} {W w' : World} {v : Value} {A : List Mv} {m : Mv} (T : OwnVers N W v A) (own5 : w'.ownsRow N 35 7 (.slice (some ⟨g, 0, none⟩) (A.length + 1) c') (A.length + 1) (mvsC (A.take i) ++ mvC m ++ mvsC (A.drop i))) (hg : W.grownBy w' v.ownBlock)
    (own : W.ownsRow M 48 3 (.slice m.a m.v.deps.length m.c) m.v.deps.length (dpsC m.v.deps)) (hN : N ≤ M) (hM : ∀ x ∈ A, ∀ b, blkOf x = some b → b < M) (hi : i ≤ A.length) :
    OwnVers N w' (.slice (some ⟨g, 0, none⟩) (A.length + 1) c') (A.take i ++ m :: A.drop i) := by
  have inn0 : OwnIn N W (A.take i ++ A.drop i) := by rw [List.take_append_drop]; exact T.inn
  have inn := inn0.insert own hN (fun x hx => hM x (by rwa [List.take_append_drop] at hx))
  have hlen : (A.take i ++ m :: A.drop i).length = A.length + 1 := by simp; omega
  have hcells : mvsC (A.take i) ++ mvC m ++ mvsC (A.drop i) = mvsC (A.take i ++ m :: A.drop i) := by rw [mvsC_app]; simp [mvsC]
  refine ⟨by rw [hlen, ← hcells]; exact own5, fun x hx => (inn.row x hx).kept hg (own_types (inn.row x hx) T.own (by decide)), inn.apart⟩

set_option maxRecDepth 100000 in
set_option maxHeartbeats 8000000 in
theorem insert_impl (l : List Mv) (x : Vp) (a ax : Option Addr) (c cx : Nat) (w : World) (hvs : Vers w a c l) (hf : Few l) (hl80 : l.length ≤ 900) (hd : Reads w ax x.deps.length cx (dpsC x.deps)) (hxl : x.deps.length ≤ 1048577) :
    Calls Try.prog 36 #[.slice a l.length c, .agg #[.int .i64 x.key, .int .i64 x.time, .int .i64 x.site, .int .i64 x.val, .int .i64 x.client, .int .i64 x.call, .slice ax x.deps.length cx]] w (ToVers (putV (vs l) x) w) := by
  have BX := Blk.new w #[.int .i64 x.key, .int .i64 x.time, .int .i64 x.site, .int .i64 x.val, .int .i64 x.client, .int .i64 x.call, .slice ax x.deps.length cx] 35
  have G0 := below_box w (.cells #[.int .i64 x.key, .int .i64 x.time, .int .i64 x.site, .int .i64 x.val, .int .i64 x.client, .int .i64 x.call, .slice ax x.deps.length cx] 35)
  have hlv := vs_len l
  have HLV := Lib.hid hlv
  clear hlv
  have HEND : ∀ (k : Nat) (A : List Mv) (W : World), k ≤ l.length → vs A = vs l → (∀ u ∈ (vs l).take k, vLess u x = true) → (∀ h : k < (vs l).length, vLess (vs l)[k] x = false) → ∀ (p : Option Addr) (c : Nat), vs (A.take k ++ (⟨x, p, c⟩ : Mv) :: A.drop k) = putV (vs l) x := fun k A W hk hA h1 h2 p c => by
    have e : vs (A.take k ++ (⟨x, p, c⟩ : Mv) :: A.drop k) = (vs A).take k ++ x :: (vs A).drop k := by simp [vs, List.map_take, List.map_drop]
    rw [e, hA]
    exact putV_at k (by rw [HLV.out]; exact hk) h1 h2
  have HE := Lib.hid HEND
  clear HEND
  go_enter Try.func36, Try.ntmps36
  go_wp2
  go_loopw [5] (fun i wr => ∃ k : Nat, k ≤ l.length ∧ i = .int .i64 k ∧ (∀ u ∈ (vs l).take k, vLess u x = true) ∧ Blk wr w.heap.size #[.int .i64 x.key, .int .i64 x.time, .int .i64 x.site, .int .i64 x.val, .int .i64 x.client, .int .i64 x.call, .slice ax x.deps.length cx] 35 ∧ Below w.heap.size w wr) (fun i _ => l.length - (intOf i).toNat)
  case atStart => exact ⟨0, Nat.zero_le _, rfl, by simp, BX, G0⟩
  case round =>
    obtain ⟨k, hk, rfl, hall, BX, hBw⟩ := hrel
    have HA := Lib.hid hall
    clear hall
    have hwz := BX.lt
    by_cases hlt : k < l.length
    · have hv := hvs.below hBw
      have hi0 : (0 : Int) ≤ (k : Int) := by omega
      have hi1 : (k : Int) < (l.length : Int) := by omega
      have hkv : k < (vs l).length := by rw [HLV.out]; exact hlt
      obtain ⟨b, off, hab, hbl, c0, c1, c2, c3, c4, c5, c6⟩ := hv.at_ k hlt
      subst hab
      obtain ⟨x0, x1, x2, x3, x4, x5, x6, xf, xl⟩ := BX.seven
      rcases hlx : depLessB l[k].v.key l[k].v.time l[k].v.site x.key x.time x.site with _ | _
      · have HG : Hid (∀ h : k < (vs l).length, vLess (vs l)[k] x = false) := fun h => by rw [vs_get l k hlt, vLess_dep]; exact hlx
        go_wp2
        refine region_over (by kernel_rfl) (by kernel_rfl) ?_
        repeat (go_big_quiet_step (first | (go_at_call 34; exact quiet_over (dep_impl _ _ _ _ _ _ _ _ _ _)) | (go_at_call 52; exact quiet_over (bool_is hlx (depLess_impl _ _ _ _ _ _ _)))))
        refine wpQuiet_nil ?_
        intro w9 hb9
        have BX := BX.below hb9 BX.lt
        have G0 := below_after hBw hb9
        clear hlx c0 c1 c2 c3 c4 c5 c6
        have hbd := (Below.refl w9.heap.size w9).drew
        have s9d : w9.drew.heap.size = w9.heap.size := rfl
        have s09 := hb9.size
        have BX := BX.below hbd BX.lt
        have G0 := below_after G0 hbd
        have hBX9 := BX.lt
        go_wp2_with fail
        go_region_held3 (fun W => W.cell? ⟨w.heap.size, 0, none⟩ = some (.int .i64 x.key) ∧ W.cell? ⟨w.heap.size, 1, none⟩ = some (.int .i64 x.time) ∧ W.cell? ⟨w.heap.size, 2, none⟩ = some (.int .i64 x.site) ∧ W.cell? ⟨w.heap.size, 3, none⟩ = some (.int .i64 x.val) ∧ W.cell? ⟨w.heap.size, 4, none⟩ = some (.int .i64 x.client) ∧ W.cell? ⟨w.heap.size, 5, none⟩ = some (.int .i64 x.call) ∧ W.cell? ⟨w.heap.size, 6, none⟩ = some (.slice ax x.deps.length cx)) (first | (with_reducible exact ⟨BX.seven.1, BX.seven.2.1, BX.seven.2.2.1, BX.seven.2.2.2.1, BX.seven.2.2.2.2.1, BX.seven.2.2.2.2.2.1, BX.seven.2.2.2.2.2.2.1⟩) | (with_reducible exact ⟨(BX.alloc _).seven.1, (BX.alloc _).seven.2.1, (BX.alloc _).seven.2.2.1, (BX.alloc _).seven.2.2.2.1, (BX.alloc _).seven.2.2.2.2.1, (BX.alloc _).seven.2.2.2.2.2.1, (BX.alloc _).seven.2.2.2.2.2.2.1⟩) | (with_reducible exact ⟨hgo.seven.1, hgo.seven.2.1, hgo.seven.2.2.1, hgo.seven.2.2.2.1, hgo.seven.2.2.2.2.1, hgo.seven.2.2.2.2.2.1, hgo.seven.2.2.2.2.2.2.1⟩)) (first | (go_at_call 35; (with_reducible refine (cloneChain_impl l _ c _ (hvs.below G0) hf).mono ?_); rintro e w3 ⟨v3, A, rfl, hvA, T3, hb⟩; have BX := BX.below hb BX.lt; have G0 := below_after G0 hb; obtain ⟨pA, cA, rfl, _⟩ := T3.open_; have hAl : A.length ≤ 900 := (by rw [← vs_len A, hvA, HLV.out]; exact hl80); have hkA : k ≤ A.length := (by rw [← vs_len A, hvA, HLV.out]; exact hk); have HVA := Lib.hid hvA; clear hvA; have s93 := hb.size) | (go_at_call 46; (with_reducible refine (clone_impl x ax cx _ (hd.below G0) hxl).mono ?_); rintro e w4 ⟨p4, c4, rfl, own4, hb⟩; have hlts3 := T3.lts; have T3 := T3.below hb; have s34 := hb.size; have BX := BX.below hb BX.lt; have G0 := below_after G0 hb) | (go_at_call 57; have hB4 : Blk (w4.alloc (.cells #[.int .i64 x.key, .int .i64 x.time, .int .i64 x.site, .int .i64 x.val, .int .i64 x.client, .int .i64 x.call, .slice p4 x.deps.length c4] 35)) w4.heap.size (mvC ⟨x, p4, c4⟩).toArray 35 := Blk.new w4 #[.int .i64 x.key, .int .i64 x.time, .int .i64 x.site, .int .i64 x.val, .int .i64 x.client, .int .i64 x.call, .slice p4 x.deps.length c4] 35; (with_reducible refine (insert_any A ⟨x, p4, c4⟩ _ w4.heap.size cA k pA _ (own_below T3.own (below_box w4 (.cells #[.int .i64 x.key, .int .i64 x.time, .int .i64 x.site, .int .i64 x.val, .int .i64 x.client, .int .i64 x.call, .slice p4 x.deps.length c4] 35))) hB4 (own_ne T3.own (Nat.le_refl _)) (by omega) (by simp; omega) hkA).mono ?_); rintro e w5 ⟨g5, c5, rfl, own5, hg5⟩; have hbw5 := below_app (below_alloc G0 (.cells #[.int .i64 x.key, .int .i64 x.time, .int .i64 x.site, .int .i64 x.val, .int .i64 x.client, .int .i64 x.call, .slice p4 x.deps.length c4] 35)) (own_below T3.own (below_box w4 (.cells #[.int .i64 x.key, .int .i64 x.time, .int .i64 x.site, .int .i64 x.val, .int .i64 x.client, .int .i64 x.call, .slice p4 x.deps.length c4] 35))) hg5 (show w.heap.size ≤ _ from (by omega)) (by simp; omega); have hgo := BX.below (below_app ((Below.refl w9.heap.size w4).alloc (by omega) (.cells #[.int .i64 x.key, .int .i64 x.time, .int .i64 x.site, .int .i64 x.val, .int .i64 x.client, .int .i64 x.call, .slice p4 x.deps.length c4] 35)) (own_below T3.own (below_box w4 (.cells #[.int .i64 x.key, .int .i64 x.time, .int .i64 x.site, .int .i64 x.val, .int .i64 x.client, .int .i64 x.call, .slice p4 x.deps.length c4] 35))) hg5 (Nat.le_refl _) (by simp; omega)) (by omega)))
        have T5 := OwnVers.ins (m := ⟨x, p4, c4⟩) (T3.below (below_box w4 (.cells #[.int .i64 x.key, .int .i64 x.time, .int .i64 x.site, .int .i64 x.val, .int .i64 x.client, .int .i64 x.call, .slice p4 x.deps.length c4] 35))) own5 hg5 (own_below own4 (below_box w4 (.cells #[.int .i64 x.key, .int .i64 x.time, .int .i64 x.site, .int .i64 x.val, .int .i64 x.client, .int .i64 x.call, .slice p4 x.deps.length c4] 35))) (show w9.drew.heap.size ≤ _ from s93) (fun y hy b hb => hlts3 y hy b hb) hkA
        go_wp2
        go_ret
        exact ⟨_, _, rfl, HE.out k A w9 hk HVA.out HA.out HG.out p4 c4, T5.base (show w.heap.size ≤ _ from by show w.heap.size ≤ w9.heap.size; omega), hbw5⟩
      · have HN : Hid (∀ u ∈ (vs l).take (k + 1), vLess u x = true) := fun u hu => by
          rw [List.take_succ_eq_append_getElem hkv] at hu
          rcases List.mem_append.1 hu with hu | hu
          · exact HA.out u hu
          · simp only [List.mem_singleton] at hu; subst hu; rw [vs_get l k hlt, vLess_dep]; exact hlx
        go_wp2
        refine region_over (by kernel_rfl) (by kernel_rfl) ?_
        repeat (go_big_quiet_step (first | (go_at_call 34; exact quiet_over (dep_impl _ _ _ _ _ _ _ _ _ _)) | (go_at_call 52; exact quiet_over (bool_is hlx (depLess_impl _ _ _ _ _ _ _)))))
        refine wpQuiet_nil ?_
        intro w9 hb9
        have BX := BX.below hb9 BX.lt
        have G0 := below_after hBw hb9
        clear hlx
        go_wp2
        go_roundw
        case rel => exact ⟨k + 1, by omega, by go_num, HN.out, BX, G0⟩
        case measure => simp [intOf]; omega
    · obtain rfl : k = l.length := by omega
      have HG : Hid (∀ h : l.length < (vs l).length, vLess (vs l)[l.length] x = false) := fun h => absurd h (by rw [HLV.out]; omega)
      obtain ⟨x0, x1, x2, x3, x4, x5, x6, xf, xl⟩ := BX.seven
      go_wp2
      refine region_over (by kernel_rfl) (by kernel_rfl) ?_
      repeat (go_big_quiet_step (fail))
      refine wpQuiet_nil ?_
      intro w9 hb9
      have BX := BX.below hb9 BX.lt
      have G0 := below_after hBw hb9
      have hbd := (Below.refl w9.heap.size w9).drew
      have s9d : w9.drew.heap.size = w9.heap.size := rfl
      have s09 := hb9.size
      have BX := BX.below hbd BX.lt
      have G0 := below_after G0 hbd
      have hBX9 := BX.lt
      go_wp2_with fail
      go_region_held3 (fun W => W.cell? ⟨w.heap.size, 0, none⟩ = some (.int .i64 x.key) ∧ W.cell? ⟨w.heap.size, 1, none⟩ = some (.int .i64 x.time) ∧ W.cell? ⟨w.heap.size, 2, none⟩ = some (.int .i64 x.site) ∧ W.cell? ⟨w.heap.size, 3, none⟩ = some (.int .i64 x.val) ∧ W.cell? ⟨w.heap.size, 4, none⟩ = some (.int .i64 x.client) ∧ W.cell? ⟨w.heap.size, 5, none⟩ = some (.int .i64 x.call) ∧ W.cell? ⟨w.heap.size, 6, none⟩ = some (.slice ax x.deps.length cx)) (first | (with_reducible exact ⟨BX.seven.1, BX.seven.2.1, BX.seven.2.2.1, BX.seven.2.2.2.1, BX.seven.2.2.2.2.1, BX.seven.2.2.2.2.2.1, BX.seven.2.2.2.2.2.2.1⟩) | (with_reducible exact ⟨(BX.alloc _).seven.1, (BX.alloc _).seven.2.1, (BX.alloc _).seven.2.2.1, (BX.alloc _).seven.2.2.2.1, (BX.alloc _).seven.2.2.2.2.1, (BX.alloc _).seven.2.2.2.2.2.1, (BX.alloc _).seven.2.2.2.2.2.2.1⟩) | (with_reducible exact ⟨hgo.seven.1, hgo.seven.2.1, hgo.seven.2.2.1, hgo.seven.2.2.2.1, hgo.seven.2.2.2.2.1, hgo.seven.2.2.2.2.2.1, hgo.seven.2.2.2.2.2.2.1⟩)) (first | (go_at_call 35; (with_reducible refine (cloneChain_impl l _ c _ (hvs.below G0) hf).mono ?_); rintro e w3 ⟨v3, A, rfl, hvA, T3, hb⟩; have BX := BX.below hb BX.lt; have G0 := below_after G0 hb; obtain ⟨pA, cA, rfl, _⟩ := T3.open_; have hAl : A.length ≤ 900 := (by rw [← vs_len A, hvA, HLV.out]; exact hl80); have hkA : l.length ≤ A.length := (by rw [← vs_len A, hvA, HLV.out]; exact hk); have HVA := Lib.hid hvA; clear hvA; have s93 := hb.size) | (go_at_call 46; (with_reducible refine (clone_impl x ax cx _ (hd.below G0) hxl).mono ?_); rintro e w4 ⟨p4, c4, rfl, own4, hb⟩; have hlts3 := T3.lts; have T3 := T3.below hb; have s34 := hb.size; have BX := BX.below hb BX.lt; have G0 := below_after G0 hb) | (go_at_call 57; have hB4 : Blk (w4.alloc (.cells #[.int .i64 x.key, .int .i64 x.time, .int .i64 x.site, .int .i64 x.val, .int .i64 x.client, .int .i64 x.call, .slice p4 x.deps.length c4] 35)) w4.heap.size (mvC ⟨x, p4, c4⟩).toArray 35 := Blk.new w4 #[.int .i64 x.key, .int .i64 x.time, .int .i64 x.site, .int .i64 x.val, .int .i64 x.client, .int .i64 x.call, .slice p4 x.deps.length c4] 35; (with_reducible refine (insert_any A ⟨x, p4, c4⟩ _ w4.heap.size cA l.length pA _ (own_below T3.own (below_box w4 (.cells #[.int .i64 x.key, .int .i64 x.time, .int .i64 x.site, .int .i64 x.val, .int .i64 x.client, .int .i64 x.call, .slice p4 x.deps.length c4] 35))) hB4 (own_ne T3.own (Nat.le_refl _)) (by omega) (by simp; omega) hkA).mono ?_); rintro e w5 ⟨g5, c5, rfl, own5, hg5⟩; have hbw5 := below_app (below_alloc G0 (.cells #[.int .i64 x.key, .int .i64 x.time, .int .i64 x.site, .int .i64 x.val, .int .i64 x.client, .int .i64 x.call, .slice p4 x.deps.length c4] 35)) (own_below T3.own (below_box w4 (.cells #[.int .i64 x.key, .int .i64 x.time, .int .i64 x.site, .int .i64 x.val, .int .i64 x.client, .int .i64 x.call, .slice p4 x.deps.length c4] 35))) hg5 (show w.heap.size ≤ _ from (by omega)) (by simp; omega); have hgo := BX.below (below_app ((Below.refl w9.heap.size w4).alloc (by omega) (.cells #[.int .i64 x.key, .int .i64 x.time, .int .i64 x.site, .int .i64 x.val, .int .i64 x.client, .int .i64 x.call, .slice p4 x.deps.length c4] 35)) (own_below T3.own (below_box w4 (.cells #[.int .i64 x.key, .int .i64 x.time, .int .i64 x.site, .int .i64 x.val, .int .i64 x.client, .int .i64 x.call, .slice p4 x.deps.length c4] 35))) hg5 (Nat.le_refl _) (by simp; omega)) (by omega)))
      have T5 := OwnVers.ins (m := ⟨x, p4, c4⟩) (T3.below (below_box w4 (.cells #[.int .i64 x.key, .int .i64 x.time, .int .i64 x.site, .int .i64 x.val, .int .i64 x.client, .int .i64 x.call, .slice p4 x.deps.length c4] 35))) own5 hg5 (own_below own4 (below_box w4 (.cells #[.int .i64 x.key, .int .i64 x.time, .int .i64 x.site, .int .i64 x.val, .int .i64 x.client, .int .i64 x.call, .slice p4 x.deps.length c4] 35))) (show w9.drew.heap.size ≤ _ from s93) (fun y hy b hb => hlts3 y hy b hb) hkA
      go_wp2
      go_ret
      exact ⟨_, _, rfl, HE.out l.length A w9 hk HVA.out HA.out HG.out p4 c4, T5.base (show w.heap.size ≤ _ from by show w.heap.size ≤ w9.heap.size; omega), hbw5⟩

theorem place_sign {l : List Vp} {q : Dp} : (hasV l q = true → 0 ≤ placeI l q) ∧ (hasV l q = false → placeI l q < 0) := by
  have h := placeI_neg (l := l) (q := q)
  constructor
  · intro hh; rw [hh] at h; simp at h; omega
  · intro hh; rw [hh] at h; simp at h; omega
set_option maxRecDepth 100000 in
set_option maxHeartbeats 4000000 in
theorem ChainPut_impl (l : List Mv) (x : Vp) (a ax : Option Addr) (c cx : Nat) (w : World) (hvs : Vers w a c l) (hf : Few l) (hd : Reads w ax x.deps.length cx (dpsC x.deps)) (hxl : x.deps.length ≤ 1048577) :
    Calls Try.prog 12 #[.slice a l.length c, .agg #[.int .i64 x.key, .int .i64 x.time, .int .i64 x.site, .int .i64 x.val, .int .i64 x.client, .int .i64 x.call, .slice ax x.deps.length cx]] w (GivesVersB (chainPutL (vs l) x) (chainPutB (vs l) x) w) := by
  have BX := Blk.new w #[.int .i64 x.key, .int .i64 x.time, .int .i64 x.site, .int .i64 x.val, .int .i64 x.client, .int .i64 x.call, .slice ax x.deps.length cx] 35
  have G0 := below_box w (.cells #[.int .i64 x.key, .int .i64 x.time, .int .i64 x.site, .int .i64 x.val, .int .i64 x.client, .int .i64 x.call, .slice ax x.deps.length cx] 35)
  have hf1 := hf.1
  have hlen := vs_len l
  have HLEN := Lib.hid hlen
  clear hlen
  go_enter Try.func12, Try.ntmps12
  go_wp2_with fail
  refine (ChainOk_impl l a c _ (hvs.below G0) hf).mono ?_
  rintro e w1 ⟨rfl, hb1⟩
  have BX := BX.below hb1 BX.lt
  have G0 := below_after G0 hb1
  obtain ⟨x0, x1, x2, x3, x4, x5, x6, xf, xl⟩ := BX.seven
  rcases hok : chainOkB (vs l) with _ | _
  · have HN := Lib.hid (put_bad (v := x) hok)
    go_wp2
    go_ret2
    exact gives_vb ⟨_, [], rfl, rfl, OwnVers.nil _ _, G0⟩ HN.out.2.symm HN.out.1.symm
  have HK := Lib.hid hok
  have hle80 := ((good_iff (vs l)).1 hok).len
  rw [HLEN.out] at hle80
  clear hok
  go_wp2_with fail
  refine (VerOk_impl x ax cx _ (hd.below G0) hxl).mono ?_
  rintro e w3 ⟨rfl, hb3⟩
  have BX := BX.below hb3 BX.lt
  have G0 := below_after G0 hb3
  obtain ⟨y0, y1, y2, y3, y4, y5, y6, yf, yl⟩ := BX.seven
  rcases hvk : verOkB x with _ | _
  · have HN := Lib.hid (put_not (v := x) HK.out (by rw [hvk]; rfl))
    go_wp2_with fail
    refine (cloneChain_impl l a c _ (hvs.below G0) hf).mono ?_
    rintro e w5 ⟨v5, ms5, rfl, hv5, own5, hb5⟩
    have s5 := G0.size
    go_wp2
    go_ret2
    exact gives_vb ⟨_, ms5, rfl, hv5, own5.base s5, below_after G0 hb5⟩ HN.out.2.symm HN.out.1.symm
  go_wp2_with fail
  refine (dep_impl _ _ _ _ _ _ _ _ _ _).mono ?_
  rintro e w4 ⟨rfl, hb4⟩
  have BX := BX.below hb4 BX.lt
  have G0 := below_after G0 hb4
  obtain ⟨z0, z1, z2, z3, z4, z5, z6, zf, zl⟩ := BX.seven
  obtain ⟨n, hn⟩ : ∃ n, placeI (vs l) (depV x) = n := ⟨_, rfl⟩
  have hplc := place_at l a c (depV x) n w4 (hvs.below G0) hf1 hn
  have HS := Lib.hid (place_sign (l := vs l) (q := depV x))
  rw [hn] at HS
  clear hn
  cases hh : hasV (vs l) (depV x) with
  | true =>
    have hn0 := HS.out.1 hh
    have HN := Lib.hid (put_not (v := x) HK.out (by rw [hvk, hh]; rfl))
    clear hh
    go_wp2_with fail
    refine hplc.mono ?_
    rintro e w5' ⟨rfl, hb5'⟩
    have BX := BX.below hb5' BX.lt
    have G0 := below_after G0 hb5'
    go_wp2_with fail
    refine (cloneChain_impl l a c _ (hvs.below G0) hf).mono ?_
    rintro e w5 ⟨v5, ms5, rfl, hv5, own5, hb5⟩
    have s5 := G0.size
    go_wp2
    go_ret2
    exact gives_vb ⟨_, ms5, rfl, hv5, own5.base s5, below_after G0 hb5⟩ HN.out.2.symm HN.out.1.symm
  | false =>
    have hn0 := HS.out.2 hh
    by_cases hfull : l.length = 80
    · have HN := Lib.hid (put_not (v := x) HK.out (by rw [hvk, hh, decide_eq_false (by rw [HLEN.out]; omega)]; rfl))
      have hf80 : ((l.length : Int) == 80) = true := by rw [hfull]; rfl
      clear hh hfull
      go_wp2_with fail
      refine hplc.mono ?_
      rintro e w5' ⟨rfl, hb5'⟩
      have BX := BX.below hb5' BX.lt
      have G0 := below_after G0 hb5'
      go_wp2_with fail
      refine (cloneChain_impl l a c _ (hvs.below G0) hf).mono ?_
      rintro e w5 ⟨v5, ms5, rfl, hv5, own5, hb5⟩
      have s5 := G0.size
      go_wp2
      go_ret2
      exact gives_vb ⟨_, ms5, rfl, hv5, own5.base s5, below_after G0 hb5⟩ HN.out.2.symm HN.out.1.symm
    · have HN := Lib.hid (put_yes (v := x) HK.out (by rw [hvk, hh, decide_eq_true (by rw [HLEN.out]; omega)]; rfl))
      clear hh
      go_wp2_with fail
      refine hplc.mono ?_
      rintro e w5' ⟨rfl, hb5'⟩
      have BX := BX.below hb5' BX.lt
      have G0 := below_after G0 hb5'
      obtain ⟨u0, u1, u2, u3, u4, u5, u6, uf, ul⟩ := BX.seven
      have hf80 : ((l.length : Int) == 80) = false := by simp only [beq_eq_false_iff_ne, ne_eq]; omega
      clear hfull
      go_wp2_with fail
      refine (insert_impl l x a ax c cx _ (hvs.below G0) hf (by omega) (hd.below G0) hxl).mono ?_
      rintro e w6 ⟨v6, ms6, rfl, hv6, own6, hb6⟩
      have s6 := G0.size
      go_wp2
      go_ret2
      exact gives_vb ⟨_, ms6, rfl, hv6, own6.base s6, below_after G0 hb6⟩ HN.out.2.symm HN.out.1.symm

end Go.Proofs.Ytdheoaefmacamaa
