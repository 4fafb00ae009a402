/- A version put among versions: the reference's. -/
import Derived.Test.YthciikogogkfcaaPutV
namespace Go.Proofs.Ythciikogogkfcaa
open Go.RowKit Go.Deep
set_option linter.unusedVariables false

/-- A version and a bool come back, both known. -/
def GivesVB (V : Vp) (b : Bool) (w : World) (e : Ending) (w' : World) : Prop := ∃ (a : Option Addr) (c : Nat), e = .returned (.tuple #[.agg #[.int .i64 V.key, .int .i64 V.time, .int .i64 V.site, .int .i64 V.val, .int .i64 V.client, .int .i64 V.call, .slice a V.deps.length c], .bool b]) ∧ w'.ownsRow w.heap.size 32 3 (.slice a V.deps.length c) V.deps.length (dpsC V.deps) ∧ Below w.heap.size w w'
theorem gives_as {r : Option Vp} {V : Vp} {b : Bool} {P : Program} {f : FuncId} {args : Array Value} {w : World} (h : Calls P f args w (GivesO r w)) (hr : r.getD zeroV = V ∧ r.isSome = b) : Calls P f args w (GivesVB V b w) := by
  obtain ⟨rfl, rfl⟩ := hr; exact h

set_option maxRecDepth 100000 in
set_option maxHeartbeats 4000000 in
theorem ChainPut_spec (l : List Mv) (x : Vp) (a ax : Option Addr) (c cx : Nat) (w : World) (hvs : Vers w a c l) (hf : Few l) (hd : Reads w ax x.deps.length cx (dpsC x.deps)) (hxl : x.deps.length ≤ 1048577) :
    Calls Try.prog 135 #[.slice a l.length c, .agg #[.int .i64 x.key, .int .i64 x.time, .int .i64 x.site, .int .i64 x.val, .int .i64 x.client, .int .i64 x.call, .slice ax x.deps.length cx]] w (GivesVersB (chainPutL (vs l) x) (chainPutB (vs l) x) w) := by
  have BX := Blk.new w #[.int .i64 x.key, .int .i64 x.time, .int .i64 x.site, .int .i64 x.val, .int .i64 x.client, .int .i64 x.call, .slice ax x.deps.length cx] 27
  have G0 := below_box w (.cells #[.int .i64 x.key, .int .i64 x.time, .int .i64 x.site, .int .i64 x.val, .int .i64 x.client, .int .i64 x.call, .slice ax x.deps.length cx] 27)
  have hf1 := hf.1
  have hlen := vs_len l
  have HLEN := Lib.hid hlen
  clear hlen
  go_enter Try.func135, Try.ntmps135
  go_wp2_with fail
  refine (ChainOk_spec l a c _ (hvs.below G0) hf).mono ?_
  rintro e w1 ⟨rfl, hb1⟩
  have BX := BX.below hb1 BX.lt
  have G0 := below_after G0 hb1
  rcases hok : chainOkB (vs l) with _ | _
  · have HN := Lib.hid (put_bad (v := x) hok)
    have T := OwnVers.made w1
    have s1 := G0.size
    go_wp2
    go_ret2
    exact gives_vb ⟨_, [], rfl, rfl, T.base s1, below_alloc G0 _⟩ HN.out.2.symm HN.out.1.symm
  have HK := Lib.hid hok
  have HA := Lib.hid (atV_ok (q := (depV x)) hok)
  obtain ⟨V, hV⟩ : ∃ V, (atV (vs l) (depV x)).getD zeroV = V := ⟨_, rfl⟩
  obtain ⟨kn, hkn⟩ : ∃ kn, (atV (vs l) (depV x)).isSome = kn := ⟨_, rfl⟩
  have HH : Hid (hasV (vs l) (depV x) = kn) := by show _ = _; rw [hasV_get, ← HA.out, hkn]
  have hca : ∀ W, Vers W a c l → Calls Try.prog 15 #[.slice a l.length c, .int .i64 x.key, .agg #[.int .i64 x.time, .int .i64 x.site]] W (GivesVB V kn W) := fun W h => gives_as (ChainAt_spec l (depV x) a c W h hf) ⟨hV, hkn⟩
  have HCA := Lib.hid hca
  clear hok hV hkn hca
  obtain ⟨x0, x1, x2, x3, x4, x5, x6, xf, xl⟩ := BX.seven
  go_wp2_with fail
  refine (HCA.out _ (hvs.below G0)).mono ?_
  rintro e w2 ⟨p2, c2, rfl, own2, hb2⟩
  have BX := BX.below hb2 BX.lt
  have G0 := below_after G0 hb2
  have BX := BX.alloc (.cells #[.int .i64 V.key, .int .i64 V.time, .int .i64 V.site, .int .i64 V.val, .int .i64 V.client, .int .i64 V.call, .slice p2 V.deps.length c2] 27)
  have G0 := below_alloc G0 (.cells #[.int .i64 V.key, .int .i64 V.time, .int .i64 V.site, .int .i64 V.val, .int .i64 V.client, .int .i64 V.call, .slice p2 V.deps.length c2] 27)
  obtain ⟨y0, y1, y2, y3, y4, y5, y6, yf, yl⟩ := BX.seven
  go_wp2_with fail
  refine (VerOk_spec x ax cx _ (hd.below G0) hxl).mono ?_
  rintro e w3 ⟨rfl, hb3⟩
  have BX := BX.below hb3 BX.lt
  have G0 := below_after G0 hb3
  obtain ⟨z0, z1, z2, z3, z4, z5, z6, zf, zl⟩ := BX.seven
  rcases hvk : verOkB x with _ | _
  · have HN := Lib.hid (put_not (v := x) HK.out (by rw [hvk]; rfl))
    go_wp2_with fail
    refine (l2Vers_spec l a c _ (hvs.below G0) hf).mono ?_
    rintro e w5 ⟨v5, ms5, rfl, hv5, own5, hb5⟩
    have s5 := G0.size
    go_wp2
    go_ret2
    exact gives_vb ⟨_, ms5, rfl, hv5, own5.base s5, below_after G0 hb5⟩ HN.out.2.symm HN.out.1.symm
  cases kn with
  | true =>
    have HN := Lib.hid (put_not (v := x) HK.out (by rw [hvk, HH.out]; rfl))
    go_wp2_with fail
    refine (l2Vers_spec l a c _ (hvs.below G0) hf).mono ?_
    rintro e w5 ⟨v5, ms5, rfl, hv5, own5, hb5⟩
    have s5 := G0.size
    go_wp2
    go_ret2
    exact gives_vb ⟨_, ms5, rfl, hv5, own5.base s5, below_after G0 hb5⟩ HN.out.2.symm HN.out.1.symm
  | false =>
    by_cases hfull : (80 : Int) ≤ (l.length : Int)
    · have HN := Lib.hid (put_not (v := x) HK.out (by rw [hvk, HH.out, decide_eq_false (by rw [HLEN.out]; omega)]; rfl))
      go_wp2_with fail
      refine (l2Vers_spec l a c _ (hvs.below G0) hf).mono ?_
      rintro e w5 ⟨v5, ms5, rfl, hv5, own5, hb5⟩
      have s5 := G0.size
      go_wp2
      go_ret2
      exact gives_vb ⟨_, ms5, rfl, hv5, own5.base s5, below_after G0 hb5⟩ HN.out.2.symm HN.out.1.symm
    · have hroom : (l.length : Int) < 80 := by omega
      have HN := Lib.hid (put_yes (v := x) HK.out (by rw [hvk, HH.out, decide_eq_true (by rw [HLEN.out]; omega)]; rfl))
      have HO := Lib.hid (hasV_no.1 HH.out)
      clear hfull
      go_wp2_with fail
      refine (l3Put_spec l x a ax c cx _ (hvs.below G0) hf (hd.below G0) hxl HO.out).mono ?_
      rintro e w5 ⟨v5, ms5, rfl, hv5, own5, hb5⟩
      have s5 := G0.size
      go_wp2
      go_ret2
      exact gives_vb ⟨_, ms5, rfl, hv5, own5.base s5, below_after G0 hb5⟩ HN.out.2.symm HN.out.1.symm

end Go.Proofs.Ythciikogogkfcaa
