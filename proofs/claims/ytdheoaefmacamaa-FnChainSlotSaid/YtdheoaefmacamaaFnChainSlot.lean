/- A slot's versions and all others are all versions. Of every input that the given statement lets in. -/
import Derived.Test.YtdheoaefmacamaaOpen
import Derived.Test.YtdheoaefmacamaaDrawC
import Derived.Test.YtdheoaefmacamaaLiV
import Derived.Test.YtdheoaefmacamaaChainS
import Derived.Test.YtdheoaefmacamaaChainW5
import Derived.Test.YtdheoaefmacamaaPutVI
namespace Go.Proofs.Ytdheoaefmacamaa.fnChainSlot
open Go.ChangeShapes Go.WideShapes Go.ChangeAt Go.RowKit
set_option linter.unusedVariables false
theorem gives_put {P : Program} {f : FuncId} {args : Array Value} {w : World} {l l' : List Vp} {b b' : Bool} (h : Calls P f args w (GivesVersB l b w)) (hl : l = l') (hb : b = b') : Calls P f args w (GivesVersB l' b' w) := by subst hl; subst hb; exact h
theorem few_put {A B : List Mv} {x : Vp} (h : Small A) (hl : A.length ≤ 140) (hx : x.deps.length ≤ 3) (hB : vs B = chainPutL (vs A) x) : Small B ∧ B.length ≤ A.length + 1 := small_put h hx hB
set_option maxRecDepth 100000 in
set_option maxHeartbeats 4000000 in
theorem walk (a0 : Option Addr) (l0 k0 : Nat) (w : World) (w0 : BytesIn w a0 l0 k0) :
    Calls Try.prog 3 #[.slice a0 l0 k0] w fun e w' => e = .returned (.bool true) ∧ Below w.heap.size w w' := by
  by_cases hbig : 1048576 < l0
  · have hbig' : (1048576 : Int) < (l0 : Int) := by omega
    go_enter Try.func3, Try.ntmps3
    go_wp2
    go_ret
    exact ⟨rfl, Below.refl _ _⟩
  · have hbig' : (l0 : Int) ≤ (1048576 : Int) := by omega
    go_enter Try.func3, Try.ntmps3
    go_wp2_with fail
    refine (DrawChainSlot_any _ _ _ _ w0).mono ?_
    rintro e w1 ⟨l, pa, ca, slot, rfl, hl, hsm, vl, hb1⟩
    have G0 := hb1
    have hfew := hsm.few hl
    have hl0 := hl
    go_wp2_with fail
    refine (ChainSlot_spec l slot pa ca _ vl hfew).mono ?_
    rintro e w2 ⟨v2, u2, A2, B2, rfl, hA2, hB2, two2, hb2⟩
    obtain ⟨pa2, ca2, rfl, _⟩ := two2.fst.open_
    obtain ⟨pb2, cb2, rfl, _⟩ := two2.snd.open_
    have HA2 := Lib.hid hA2
    have HB2 := Lib.hid hB2
    clear hA2 hB2
    have G0 := below_after G0 hb2
    have vl := vl.below hb2
    go_wp2_with fail
    refine (ChainSlot_impl l slot pa ca _ vl hfew).mono ?_
    rintro e w3 ⟨v3, u3, A3, B3, rfl, hA3, hB3, two3, hb3⟩
    obtain ⟨pa3, ca3, rfl, _⟩ := two3.fst.open_
    obtain ⟨pb3, cb3, rfl, _⟩ := two3.snd.open_
    have HA3 := Lib.hid hA3
    have HB3 := Lib.hid hB3
    clear hA3 hB3
    have G0 := below_after G0 hb3
    have two2 := two2.below hb3
    have vl := vl.below hb3
    go_wp2_with fail
    refine (liVers_same A3 A2 pa3 pa2 ca3 ca2 _ two3.fst.vers two2.fst.vers (by rw [HA3.out, HA2.out])).mono ?_
    rintro e w4 ⟨rfl, hb4⟩
    have G0 := below_after G0 hb4
    have two2 := two2.below hb4
    have two3 := two3.below hb4
    have vl := vl.below hb4
    have ls4 := hb4.size
    go_wp2_with fail
    refine (liVers_same B3 B2 pb3 pb2 cb3 cb2 _ two3.snd.vers two2.snd.vers (by rw [HB3.out, HB2.out])).mono ?_
    rintro e w5 ⟨rfl, hb5⟩
    have G0 := below_after G0 hb5
    have two2 := two2.below hb5
    have two3 := two3.below hb5
    have vl := vl.below hb5
    have ls5 := hb5.size
    go_wp2_with fail
    refine (ChainOk_spec l pa ca _ vl hfew).mono ?_
    rintro e w6 ⟨rfl, hb6⟩
    have G0 := below_after G0 hb6
    have two2 := two2.below hb6
    have two3 := two3.below hb6
    have vl := vl.below hb6
    have ls6 := hb6.size
    rcases hok : chainOkB (vs l) with _ | _
    · skip
      go_wp2_with fail
      refine (liVers_same A3 A2 pa3 pa2 ca3 ca2 _ two3.fst.vers two2.fst.vers (by rw [HA3.out, HA2.out])).mono ?_
      rintro e w7 ⟨rfl, hb7⟩
      have G0 := below_after G0 hb7
      have two2 := two2.below hb7
      have two3 := two3.below hb7
      have vl := vl.below hb7
      have ls7 := hb7.size
      go_wp2_with fail
      refine (liVers_same B3 B2 pb3 pb2 cb3 cb2 _ two3.snd.vers two2.snd.vers (by rw [HB3.out, HB2.out])).mono ?_
      rintro e w8 ⟨rfl, hb8⟩
      have G0 := below_after G0 hb8
      have two2 := two2.below hb8
      have two3 := two3.below hb8
      have vl := vl.below hb8
      have ls8 := hb8.size
      go_wp2
      go_ret
      exact ⟨rfl, G0⟩
    have HK := Lib.hid hok
    have HLN := Lib.hid (vs_len l)
    have hsB : Small B3 := fun m hm => by
      have : m.v ∈ vs B3 := List.mem_map_of_mem hm
      rw [HB3.out, slotOut_ok hok] at this
      obtain ⟨y, hy, e⟩ := List.mem_map.1 (List.mem_filter.1 this).1
      rw [← e]; exact hsm y hy
    have hsA : Small A3 := fun m hm => by
      have : m.v ∈ vs A3 := List.mem_map_of_mem hm
      rw [HA3.out, slotIn_ok hok] at this
      obtain ⟨y, hy, e⟩ := List.mem_map.1 (List.mem_filter.1 this).1
      rw [← e]; exact hsm y hy
    have hA3 : A3.length ≤ 140 := by
      rw [← vs_len A3, HA3.out, slotIn_ok hok]
      exact Nat.le_trans (List.length_filter_le _ _) (by rw [HLN.out]; exact hl)
    have HST : Hid (SlSt (vs l) slot 0 (vs B3)) := by show SlSt _ _ _ _; rw [HB3.out]; exact SlSt.start hok slot
    clear hok
    have vB := two3.snd.vers
    go_wp2
    go_loopw [9, 10, 11, 12] (fun x i _ _ wr => ∃ (k : Nat) (X : List Mv) (px : Option Addr) (cx : Nat), k ≤ A3.length ∧ i = .int .i64 k ∧ x = .slice px X.length cx ∧ SlSt (vs l) slot k (vs X) ∧ Small X ∧ Vers wr px cx X ∧ Below w6.heap.size w6 wr) (fun _ i _ _ _ => A3.length - (intOf i).toNat)
    case atStart => exact ⟨0, B3, pb3, cb3, Nat.zero_le _, rfl, rfl, HST.out, hsB, vB, Below.refl _ _⟩
    case round =>
      obtain ⟨k, X, px, cx, hk, rfl, rfl, hst, hsX, vX, hbk⟩ := hrel
      have HS := Lib.hid hst
      clear hst
      have G0 := below_after G0 hbk
      have two2 := two2.below hbk
      have two3 := two3.below hbk
      have vl := vl.below hbk
      by_cases hlt : k < A3.length
      · skip
        have hki : (k : Int) < (A3.length : Int) := by omega
        have hki0 : (0 : Int) ≤ (k : Int) := by omega
        have hkv : k < (slotIn (vs l) slot).length := by rw [← HA3.out, vs_len]; exact hlt
        have hkk : (slotIn (vs l) slot)[k] = A3[k].v := by
          have h := vs_get A3 k hlt
          rw [← h]; congr 1; exact HA3.out.symm
        have hstp := HS.out.step HK.out hkv
        rw [hkk] at hstp
        have HSTP := Lib.hid hstp
        have hvs1 : (verSlotI A3[k].v.key != slot) = false := by rw [hstp.2.2]; simp
        have hXl : X.length ≤ 80 := by rw [← vs_len X]; exact HS.out.good.len
        have fewX := hsX.few (by omega)
        have hdk := hsA _ (List.getElem_mem hlt)
        clear hkv hkk hstp
        have vA := two3.fst.vers
        have hrk := vA.get k hlt
        obtain ⟨b, off, hab, hbl, c0, c1, c2, c3, c4, c5, c6⟩ := vA.at_ k hlt
        subst hab
        go_wp2_with fail
        refine (verSlot_impl _ _).mono ?_
        rintro e w' ⟨rfl, rfl⟩
        go_wp2_with fail
        refine (gives_put (ChainPut_impl X A3[k].v px A3[k].a cx A3[k].c _ vX fewX hrk (by omega)) (putL_yes HSTP.out.1) HSTP.out.1).mono ?_
        rintro e w9 ⟨v9, M9, rfl, hM9, T9, hb9⟩
        obtain ⟨p9, c9, rfl, V9⟩ := T9.open_
        have HM9 := Lib.hid hM9
        have HSM := Lib.hid (small_put hsX (x := A3[k].v) hdk (by rw [hM9, putL_yes HSTP.out.1]))
        clear hM9 T9
        have hbk9 := below_after hbk hb9
        go_wp2
        go_roundw
        case rel => exact ⟨k + 1, M9, p9, c9, by omega, by go_num, rfl, by rw [HM9.out]; exact HSTP.out.2.1, HSM.out.1, V9, hbk9⟩
        case measure => simp [intOf]; omega
      · skip
        obtain rfl : k = A3.length := by omega
        have HE : Hid (vs X = vs l) := SlSt.all (s := slot) HK.out (by have h := HS.out; rwa [← vs_len A3, HA3.out] at h)
        go_wp2_with fail
        refine (liVers_same X l px pa cx ca _ vX vl (by rw [HE.out])).mono ?_
        rintro e w9 ⟨rfl, hb9⟩
        have G0 := below_after G0 hb9
        have two2 := two2.below hb9
        have two3 := two3.below hb9
        have vl := vl.below hb9
        have vX := vX.below hb9
        have ls9 := hb9.size
        go_wp2
        go_ret
        exact ⟨rfl, G0⟩

set_option maxRecDepth 100000 in
theorem lifted (os : Os) (started : os.Started) (H : Type) (enc : TypeId × Value → H) :
    ReturnsInHanded {} Try.checked os 3 .any (Rows.fnChainSlotSpec.pre6 enc Try.prog Try.f3 Rows.fnChainSlotRow.domain false) (Rows.fnChainSlotSpec.post enc Try.prog Try.f3 false true false false) := by
  refine returnsInHanded_of_change (C := Try.checked) own started (by kernel_rfl) Try.func3
    (ChangeSpec.witness6 (enc := enc) (C := Try.checked) false ⟨#[], #[.slice none 0 0], []⟩ 8 (by kernel_rfl) (by kernel_rfl) (by kernel_rfl) (by kernel_rfl)) ?_
  intro W base args ds gs before hval0 hW hcnd _
  have hval : ∀ (j : Nat) t v, Try.f3.params[j]? = some t → args[j]? = some v → Value.okWide Try.prog W .any base t v := hval0
  have hW' := hW
  obtain ⟨p, q, hA0, hV, rfl, hfz, hnd⟩ := hW
  have hA : DataW.TrodAll enc Try.prog W 0 (fun _ => true) true Try.f3.params.toList args.toList ds p := hA0
  rw [Try.params3] at hA hval
  obtain ⟨v0, vs0, d0, ds0, p0, q0, hargs, rfl, rfl, h0, r0⟩ := trodAll_cons hA
  obtain ⟨rfl, rfl, rfl⟩ := trodAll_nil r0
  obtain rfl : args = #[v0] := by cases args; simp_all
  obtain ⟨rfl, rfl⟩ := trodVars_none hV
  have lt0 : ∀ x ∈ p0, x.block < W.heap.size := by obtain ⟨m, hm⟩ := h0; exact DataW.trod_lt m _ _ _ hm
  obtain ⟨a0, l0, k0, rfl, w0⟩ := bytes_of Try.underlying22 Try.underlying5 (by kernel_rfl) (hval 0 22 v0 rfl rfl) h0
  clear hA0 hval0
  refine (walk a0 l0 k0 W w0).mono fun e W' ⟨he, bel⟩ => ?_
  subst he
  exact ⟨_, rfl, _, _, _, [], _, [], hW', trodAll_mk1 (shut_bool Try.underlying4 _), (trodAll_cons_mk (Below.trod laidOut (by kernel_rfl) (of_decide_eq_true (by kernel_rfl)) h0 bel lt0) trodAll_mk0), rfl, bel.frame _, fun h => by cases h⟩

theorem over_row : Rows.fnChainSlotRow.holds Try.pinned (OpenSpec.ofChange Rows.fnChainSlotSpec) :=
  OpenClaim.holds_of_wide 3 Try.f3 rfl rfl rfl rfl rfl rfl rfl ⟨rfl, rfl, rfl, rfl, rfl⟩ rfl rfl rfl rfl rfl (by kernel_rfl) Try.func3 (by kernel_rfl)
    (of_decide_eq_true (by kernel_rfl)) (by unfold Func.isWrapper; first | (rw [if_pos (by decide +kernel)]; kernel_rfl) | (rw [if_neg (by decide +kernel)]; exact ⟨rfl, rfl⟩))
    (fun os started H enc _ => lifted os started H enc)

/-- The statement. -/
theorem proved : Rows.FnChainSlotSaid := over_row
end Go.Proofs.Ytdheoaefmacamaa.fnChainSlot
