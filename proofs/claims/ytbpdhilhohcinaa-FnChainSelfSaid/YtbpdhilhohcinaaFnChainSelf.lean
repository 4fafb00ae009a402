/- A version that is there is found by its own key and stamp. Of every input that the given statement lets in. -/
import Derived.Test.YtbpdhilhohcinaaOpen
import Derived.Test.YtbpdhilhohcinaaDrawC2
import Derived.Test.YtbpdhilhohcinaaLiV
import Derived.Test.YtbpdhilhohcinaaChainW4
import Derived.Test.YtbpdhilhohcinaaPutW2
import Derived.Test.YtbpdhilhohcinaaPutV2
import Derived.Deep.RegionHeld3
namespace Go.Proofs.Ytbpdhilhohcinaa.fnChainSelf
open Go.ChangeShapes Go.WideShapes Go.ChangeAt Go.RowKit
set_option linter.unusedVariables false
theorem mem_putF {l : List Dp} {d x : Dp} (h : x ∈ putF l d) : x ∈ l ∨ x = d := by
  induction l with
  | nil => rw [putF, List.mem_singleton] at h; exact .inr h
  | cons e l ih =>
    rw [putF] at h
    split at h
    · rcases List.mem_cons.1 h with h | h
      · split at h
        · exact .inr h
        · exact .inl (by rw [h]; exact List.mem_cons_self)
      · exact .inl (List.mem_cons_of_mem _ h)
    · split at h
      · rcases List.mem_cons.1 h with h | h
        · exact .inr h
        · exact .inl h
      · rcases List.mem_cons.1 h with h | h
        · exact .inl (by rw [h]; exact List.mem_cons_self)
        · rcases ih h with h | h
          · exact .inl (List.mem_cons_of_mem _ h)
          · exact .inr h
theorem hasAll_mem {l : List Vp} {ds : List Dp} : hasAllB l ds = true ↔ ∀ d ∈ ds, hasV l d = true := by unfold hasAllB; exact List.all_eq_true
theorem hasAll_put {l : List Vp} {ds : List Dp} {d : Dp} (h : hasAllB l ds = true) (hd : hasV l d = true) (h1 : depsOkB ds = true) (h2 : dpOk d = true) : hasAllB l (putR ds d) = true := by
  rw [putR_ok h1 h2, hasAll_mem]
  intro x hx
  rcases mem_putF hx with h3 | h3
  · exact hasAll_mem.1 h x h3
  · rw [h3]; exact hd
theorem putR_okB {l : List Dp} {d : Dp} (h : depsOkB l = true) (hd : dpOk d = true) : depsOkB (putR l d) = true := by rw [putR_ok h hd]; exact putF_ok h hd
theorem ver_dpOk {v : Vp} (h : verOkB v = true) : dpOk (depV v) = true := by
  simp only [verOkB, headOkB, Bool.and_eq_true] at h
  simp only [dpOk, depV, Bool.and_eq_true]
  exact ⟨h.1.1, h.1.2.1⟩
theorem self_step {l : List Vp} {v : Vp} (hok : chainOkB l = true) (hv : v ∈ l) : getV l (depV v) = some v ∧ hasV l (depV v) = true ∧ dpOk (depV v) = true := by
  have hg := (good_iff l).1 hok
  have h1 := getV_mem hg.srt hv
  exact ⟨h1, by rw [hasV_hit h1]; rfl, ver_dpOk (hg.ok v hv)⟩
set_option maxRecDepth 100000 in
set_option maxHeartbeats 8000000 in
theorem walk (a0 : Option Addr) (l0 k0 : Nat) (w : World) (w0 : BytesIn w a0 l0 k0) :
    Calls Try.prog 9 #[.slice a0 l0 k0] w fun e w' => e = .returned (.bool true) ∧ Below w.heap.size w w' := by
  by_cases hbig : 1048576 < l0
  · have hbig' : (1048576 : Int) < (l0 : Int) := by omega
    go_enter Try.func9, Try.ntmps9
    go_wp2
    go_ret
    exact ⟨rfl, Below.refl _ _⟩
  · have hbig' : (l0 : Int) ≤ (1048576 : Int) := by omega
    go_enter Try.func9, Try.ntmps9
    go_wp2_with fail
    refine (DrawChainOk_any _ _ _ _ w0).mono ?_
    rintro e w1 ⟨l, pa, ca, rfl, hl, hsm, vl, hb1⟩
    have G0 := hb1
    have hfew := hsm.few hl
    have hl0 := hl
    have HSM := Lib.hid hsm
    clear hsm
    go_wp2_with fail
    refine (ChainOk_spec l pa ca _ vl hfew).mono ?_
    rintro e w2 ⟨rfl, hb2⟩
    have G0 := below_after G0 hb2
    have vl := vl.below hb2
    have ls2 := hb2.size
    rcases hok : chainOkB (vs l) with _ | _
    · skip
      go_wp2_with fail
      refine (bool_is hok (ChainOk_impl l pa ca _ vl hfew)).mono ?_
      rintro e w3 ⟨rfl, hb3⟩
      have G0 := below_after G0 hb3
      have vl := vl.below hb3
      have ls3 := hb3.size
      go_wp2
      go_ret
      exact ⟨rfl, G0⟩
    have HK := Lib.hid hok
    clear hok
    go_wp2
    go_loopw [4, 5, 6, 7] (fun dv i _ _ wr => ∃ (k : Nat) (ds : List Dp) (p : Option Addr) (c : Nat), k ≤ l.length ∧ i = .int .i64 k ∧ dv = .slice p ds.length c ∧ ds.length ≤ k ∧ depsOkB ds = true ∧ hasAllB (vs l) ds = true ∧ Reads wr p ds.length c (dpsC ds) ∧ Below w2.heap.size w2 wr) (fun _ i _ _ _ => l.length - (intOf i).toNat)
    case atStart => exact ⟨0, [], _, _, Nat.zero_le _, rfl, rfl, Nat.zero_le _, rfl, rfl, ⟨Nat.le_refl _, by simp, fun h => absurd rfl h⟩, below_box _ _⟩
    case round =>
      obtain ⟨k, ds, p, c, hk, rfl, rfl, hds, hdo, hha, rd, hbk⟩ := hrel
      have HDO := Lib.hid hdo
      have HHA := Lib.hid hha
      clear hdo hha
      have G0 := below_after G0 hbk
      have vl := vl.below hbk
      by_cases hlt : k < l.length
      · skip
        have hkv : k < (vs l).length := by rw [vs_len]; exact hlt
        have hstep := self_step HK.out (List.getElem_mem hkv)
        rw [vs_get l k hlt] at hstep
        have HS := Lib.hid hstep
        clear hstep
        have hBd : Below wr.heap.size wr wr.drew := (Below.refl _ _).drew
        have hBz : Below wr.heap.size wr (wr.alloc (.cells #[.int .i64 0, .int .i64 0, .int .i64 0, .int .i64 0, .int .i64 0, .int .i64 0, .slice none 0 0] 54)).drew := (below_box wr (.cells #[.int .i64 0, .int .i64 0, .int .i64 0, .int .i64 0, .int .i64 0, .int .i64 0, .slice none 0 0] 54)).drew
        have hwz := hbk.size
        have hi0 : (0 : Int) ≤ (k : Int) := by omega
        have hi1 : (k : Int) < (l.length : Int) := by omega
        obtain ⟨b, off, hab, hbl, c0, c1, c2, c3, c4, c5, c6⟩ := vl.at_ k hlt
        subst hab
        have k0 : wr.drew.cell? ⟨b, off + k * 7, none⟩ = some (.int .i64 l[k].v.key) := c0
        have k1 : wr.drew.cell? ⟨b, off + k * 7 + 1, none⟩ = some (.int .i64 l[k].v.time) := c1
        have k2 : wr.drew.cell? ⟨b, off + k * 7 + 2, none⟩ = some (.int .i64 l[k].v.site) := c2
        have hne1 : ¬ wr.heap.size = b := by omega
        have hne2 : ¬ b = wr.heap.size := by omega
        clear c3 c4 c5 c6
        have HG : Hid (∀ W, Vers W (some ⟨b, off, none⟩) ca l → Calls Try.prog 35 #[.slice (some ⟨b, off, none⟩) l.length ca, .int .i64 l[k].v.key, .agg #[.int .i64 l[k].v.time, .int .i64 l[k].v.site]] W (GivesVB l[k].v true W)) := fun W hW => gives_as (ChainAt_impl l (depV l[k].v) _ ca W hW hfew) (by rw [atV_ok HK.out, HS.out.1]; exact ⟨rfl, rfl⟩)
        go_wp2_with fail
        go_region_with (first | (go_at_call 35; (with_reducible refine (HG.out wr.drew (vl.below hBd)).mono ?_); rintro e w3 ⟨p3, c3, rfl, own3, hb⟩; have vl4 := (vl.below hBd).below hb; have rd4 := (rd.below hBd).below hb; have hr4 := below_after hBd hb; have hw34 := hb.size; clear c0 c1 c2 k0 k1 k2; obtain ⟨b2, off2, hab2, hbl2, d0, d1, d2, d3, d4, d5, d6⟩ := vl4.at_ k hlt; simp only [Option.some.injEq, Addr.mk.injEq, and_true] at hab2; obtain ⟨rfl, rfl⟩ := hab2) | (go_at_call 35; (with_reducible refine (HG.out (wr.alloc (.cells #[.int .i64 0, .int .i64 0, .int .i64 0, .int .i64 0, .int .i64 0, .int .i64 0, .slice none 0 0] 54)).drew (vl.below hBz)).mono ?_); rintro e w3 ⟨p3, c3, rfl, own3, hb⟩; have BZ := (Blk.drew (Blk.new wr #[.int .i64 0, .int .i64 0, .int .i64 0, .int .i64 0, .int .i64 0, .int .i64 0, .slice none 0 0] 54)).below hb (Blk.drew (Blk.new wr #[.int .i64 0, .int .i64 0, .int .i64 0, .int .i64 0, .int .i64 0, .int .i64 0, .slice none 0 0] 54)).lt; obtain ⟨z0, z1, z2, z3, z4, z5, z6, zf, zl⟩ := BZ.seven; have vl4 := (vl.below hBz).below hb; have rd4 := (rd.below hBz).below hb; have hr4 := below_after hBz hb; have hw34 := hb.size; clear c0 c1 c2 k0 k1 k2; obtain ⟨b2, off2, hab2, hbl2, d0, d1, d2, d3, d4, d5, d6⟩ := vl4.at_ k hlt; simp only [Option.some.injEq, Addr.mk.injEq, and_true] at hab2; obtain ⟨rfl, rfl⟩ := hab2))
        all_goals (
          first
          | (have BZ := BZ
             have hne := BZ.lt
             have hbz : ¬ b = wr.heap.size := by omega
             have BW := (((((((BZ.put0 (.int .i64 l[k].v.key)).put1 (.int .i64 l[k].v.time)).put2 (.int .i64 l[k].v.site)).put3 (.int .i64 l[k].v.val)).put4 (.int .i64 l[k].v.client)).put5 (.int .i64 l[k].v.call)).put6 (.slice p3 l[k].v.deps.length c3))
             have own5 := (own_set (own_set (own_set (own_set (own_set (own_set (own_set own3 (own_ne' own3 (b := wr.heap.size) (by rw [World.size_drew, World.size_alloc]; omega)) (o := 0) (.int .i64 l[k].v.key)) (own_ne' own3 (b := wr.heap.size) (by rw [World.size_drew, World.size_alloc]; omega)) (o := 1) (.int .i64 l[k].v.time)) (own_ne' own3 (b := wr.heap.size) (by rw [World.size_drew, World.size_alloc]; omega)) (o := 2) (.int .i64 l[k].v.site)) (own_ne' own3 (b := wr.heap.size) (by rw [World.size_drew, World.size_alloc]; omega)) (o := 3) (.int .i64 l[k].v.val)) (own_ne' own3 (b := wr.heap.size) (by rw [World.size_drew, World.size_alloc]; omega)) (o := 4) (.int .i64 l[k].v.client)) (own_ne' own3 (b := wr.heap.size) (by rw [World.size_drew, World.size_alloc]; omega)) (o := 5) (.int .i64 l[k].v.call)) (own_ne' own3 (b := wr.heap.size) (by rw [World.size_drew, World.size_alloc]; omega)) (o := 6) (.slice p3 l[k].v.deps.length c3))
             have hb5 := ((((((((Below.refl wr.heap.size w3).setCell (p := ⟨wr.heap.size, 0, none⟩) (Nat.le_refl _) (.int .i64 l[k].v.key)).setCell (p := ⟨wr.heap.size, 1, none⟩) (Nat.le_refl _) (.int .i64 l[k].v.time)).setCell (p := ⟨wr.heap.size, 2, none⟩) (Nat.le_refl _) (.int .i64 l[k].v.site)).setCell (p := ⟨wr.heap.size, 3, none⟩) (Nat.le_refl _) (.int .i64 l[k].v.val)).setCell (p := ⟨wr.heap.size, 4, none⟩) (Nat.le_refl _) (.int .i64 l[k].v.client)).setCell (p := ⟨wr.heap.size, 5, none⟩) (Nat.le_refl _) (.int .i64 l[k].v.call)).setCell (p := ⟨wr.heap.size, 6, none⟩) (Nat.le_refl _) (.slice p3 l[k].v.deps.length c3)))
          | (have BW := Blk.new w3 #[.int .i64 l[k].v.key, .int .i64 l[k].v.time, .int .i64 l[k].v.site, .int .i64 l[k].v.val, .int .i64 l[k].v.client, .int .i64 l[k].v.call, .slice p3 l[k].v.deps.length c3] 54
             have own5 := own_below own3 (below_box w3 (.cells #[.int .i64 l[k].v.key, .int .i64 l[k].v.time, .int .i64 l[k].v.site, .int .i64 l[k].v.val, .int .i64 l[k].v.client, .int .i64 l[k].v.call, .slice p3 l[k].v.deps.length c3] 54))
             have hb5 := (below_box w3 (.cells #[.int .i64 l[k].v.key, .int .i64 l[k].v.time, .int .i64 l[k].v.site, .int .i64 l[k].v.val, .int .i64 l[k].v.client, .int .i64 l[k].v.call, .slice p3 l[k].v.deps.length c3] 54)).mono (show wr.heap.size ≤ w3.heap.size by first | exact hw34 | omega))
          have hr5 := hr4.trans hb5
          have vl5 := vl.below hr5
          have rd5 := rd.below hr5
          have G5 := below_after G0 hr5
          have hbk5 := below_after hbk hr5
          have own5 := Reads.own own5
          obtain ⟨b3, off3, hab3, hbl3, x0, x1, x2, x3, x4, x5, x6⟩ := vl5.at_ k hlt
          simp only [Option.some.injEq, Addr.mk.injEq, and_true] at hab3
          obtain ⟨rfl, rfl⟩ := hab3
          have hrs := vl5.get k hlt
          obtain ⟨y0, y1, y2, y3, y4, y5, y6, yf, yl⟩ := BW.seven
          go_wp2
          (try go_simp)
          (try go_wp2)
          refine region_over (by kernel_rfl) (by kernel_rfl) ?_
          repeat (go_big_quiet_step ((go_at_call 36; exact quiet_over (liVer_same l[k].v p3 l[k].a c3 l[k].c _ (own5.below (over_below _ _)) (hrs.below (over_below _ _))))))
          refine wpQuiet_nil ?_
          intro w9 hb9
          have BW := BW.below hb9 BW.lt
          have rd6 := rd5.below hb9
          have hbk6 := below_after hbk5 hb9
          obtain ⟨u0, u1, u2, u3, u4, u5, u6, uf, ul⟩ := BW.seven
          go_wp2_with fail
          refine (DepsPut_impl ds (depV l[k].v) p c _ rd6 (by omega)).mono ?_
          rintro e w10 ⟨v10, rfl, own10, hb10⟩
          obtain ⟨p10, c10, rfl, rd10⟩ := Reads.of_owns own10
          have hpl := putR_len ds (depV l[k].v)
          go_wp2
          go_roundw
          case rel => exact ⟨k + 1, putR ds (depV l[k].v), p10, c10, by omega, by go_num, rfl, by omega, putR_okB HDO.out HS.out.2.2, hasAll_put HHA.out HS.out.2.1 HDO.out HS.out.2.2, rd10, below_after hbk6 hb10⟩
          case measure => simp [intOf]; omega)
      · skip
        obtain rfl : k = l.length := by omega
        have hch : chainHasB (vs l) ds = true := by unfold chainHasB; rw [HK.out, HDO.out, HHA.out]; rfl
        have HCH := Lib.hid hch
        clear hch
        go_wp2_with fail
        refine (bool_is HCH.out (ChainHas_impl l pa ca ds p c _ vl hfew rd (by omega))).mono ?_
        rintro e w7 ⟨rfl, hb7⟩
        have G0 := below_after G0 hb7
        have vl := vl.below hb7
        have ls7 := hb7.size
        go_wp2_with fail
        refine (bool_is HK.out (ChainOk_impl l pa ca _ vl hfew)).mono ?_
        rintro e w8 ⟨rfl, hb8⟩
        have G0 := below_after G0 hb8
        have vl := vl.below hb8
        have ls8 := hb8.size
        go_wp2
        go_ret
        exact ⟨rfl, G0⟩

set_option maxRecDepth 100000 in
theorem lifted (os : Os) (started : os.Started) (H : Type) (enc : TypeId × Value → H) :
    ReturnsInHanded {} Try.checked os 9 .any (Rows.fnChainSelfSpec.pre6 enc Try.prog Try.f9 Rows.fnChainSelfRow.domain false) (Rows.fnChainSelfSpec.post enc Try.prog Try.f9 false true false false) := by
  refine returnsInHanded_of_change (C := Try.checked) own started (by kernel_rfl) Try.func9
    (ChangeSpec.witness6 (enc := enc) (C := Try.checked) false ⟨#[], #[.slice none 0 0], []⟩ 8 (by kernel_rfl) (by kernel_rfl) (by kernel_rfl) (by kernel_rfl)) ?_
  intro W base args ds gs before hval0 hW hcnd _
  have hval : ∀ (j : Nat) t v, Try.f9.params[j]? = some t → args[j]? = some v → Value.okWide Try.prog W .any base t v := hval0
  have hW' := hW
  obtain ⟨p, q, hA0, hV, rfl, hfz, hnd⟩ := hW
  have hA : DataW.TrodAll enc Try.prog W 0 (fun _ => true) true Try.f9.params.toList args.toList ds p := hA0
  rw [Try.params9] at hA hval
  obtain ⟨v0, vs0, d0, ds0, p0, q0, hargs, rfl, rfl, h0, r0⟩ := trodAll_cons hA
  obtain ⟨rfl, rfl, rfl⟩ := trodAll_nil r0
  obtain rfl : args = #[v0] := by cases args; simp_all
  obtain ⟨rfl, rfl⟩ := trodVars_none hV
  have lt0 : ∀ x ∈ p0, x.block < W.heap.size := by obtain ⟨m, hm⟩ := h0; exact DataW.trod_lt m _ _ _ hm
  obtain ⟨a0, l0, k0, rfl, w0⟩ := bytes_of Try.underlying44 Try.underlying5 (by kernel_rfl) (hval 0 44 v0 rfl rfl) h0
  clear hA0 hval0
  refine (walk a0 l0 k0 W w0).mono fun e W' ⟨he, bel⟩ => ?_
  subst he
  exact ⟨_, rfl, _, _, _, [], _, [], hW', trodAll_mk1 (shut_bool Try.underlying4 _), (trodAll_cons_mk (Below.trod laidOut (by kernel_rfl) (of_decide_eq_true (by kernel_rfl)) h0 bel lt0) trodAll_mk0), rfl, bel.frame _, fun h => by cases h⟩

theorem over_row : Rows.fnChainSelfRow.holds Try.pinned (OpenSpec.ofChange Rows.fnChainSelfSpec) :=
  OpenClaim.holds_of_wide 9 Try.f9 rfl rfl rfl rfl rfl rfl rfl ⟨rfl, rfl, rfl, rfl, rfl⟩ rfl rfl rfl rfl rfl (by kernel_rfl) Try.func9 (by kernel_rfl)
    (of_decide_eq_true (by kernel_rfl)) (by unfold Func.isWrapper; first | (rw [if_pos (by decide +kernel)]; kernel_rfl) | (rw [if_neg (by decide +kernel)]; exact ⟨rfl, rfl⟩))
    (fun os started H enc _ => lifted os started H enc)

/-- The statement. -/
theorem proved : Rows.FnChainSelfSaid := over_row
end Go.Proofs.Ytbpdhilhohcinaa.fnChainSelf
