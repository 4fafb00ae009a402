/- Words counted and compared; arguments that are words, opened. -/
import Derived.Test.YtiigdbmfpibbdaaWordX
import Derived.Test.YtiigdbmfpibbdaaOpenV
namespace Go.Proofs.Ytiigdbmfpibbdaa
open Go.ChangeShapes Go.WideShapes Go.ChangeAt Go.RowKit Go.Joins Go.Deep
set_option linter.unusedVariables false

set_option maxHeartbeats 2000000 in
theorem szWord_laws (x : Mw) (left : Int) (w : World) (hin : WordIn w x) (h0 : 0 ≤ left) (h1 : left ≤ 1048576) :
    Calls Try.prog 54 #[.agg #[.int .i64 x.kind, .int .i64 x.frm, .int .i64 x.to, .int .i64 x.call, .int .i64 x.key, .int .i64 x.time, .int .i64 x.site, .int .i64 x.val, .bool x.yes, .slice x.da x.deps.length x.dc, .int .i64 x.slot, .int .i64 x.epoch, .slice x.va x.vers.length x.vc, .slice x.wa x.waits.length x.wc, .slice x.oa x.owes.length x.oc], .int .i64 left] w fun e w' => ∃ r : Int, e = .returned (.int .i64 r) ∧ (0 ≤ r → x.deps.length ≤ 1048576 ∧ sizeM x.vers ≤ 1048576 ∧ sizeM x.waits ≤ 1048576 ∧ x.owes.length ≤ 1048576) ∧ Below w.heap.size w w' := by
  have BV := Blk.new w #[.int .i64 x.kind, .int .i64 x.frm, .int .i64 x.to, .int .i64 x.call, .int .i64 x.key, .int .i64 x.time, .int .i64 x.site, .int .i64 x.val, .bool x.yes, .slice x.da x.deps.length x.dc, .int .i64 x.slot, .int .i64 x.epoch, .slice x.va x.vers.length x.vc, .slice x.wa x.waits.length x.wc, .slice x.oa x.owes.length x.oc] 74
  have G := below_box w (.cells #[.int .i64 x.kind, .int .i64 x.frm, .int .i64 x.to, .int .i64 x.call, .int .i64 x.key, .int .i64 x.time, .int .i64 x.site, .int .i64 x.val, .bool x.yes, .slice x.da x.deps.length x.dc, .int .i64 x.slot, .int .i64 x.epoch, .slice x.va x.vers.length x.vc, .slice x.wa x.waits.length x.wc, .slice x.oa x.owes.length x.oc] 74)
  have m1 := hin.dp
  obtain ⟨m1a, m1b, _⟩ := m1
  have m2 := hin.ow
  obtain ⟨m2a, m2b, _⟩ := m2
  obtain ⟨p0, p1, p2, p3, p4, p5, p6, p7, p8, p9, p10, p11, p12, p13, p14, pf, pl⟩ := BV.word
  go_enter Try.func54, Try.ntmps54
  go_wp2_with fail
  refine (szDepS_laws x.deps.length left x.da x.dc _ h0 h1 (by omega)).mono ?_
  rintro e w' ⟨rfl, rfl⟩
  by_cases h1 : left < (x.deps.length : Int)
  · have hz : szR (left) (x.deps.length) = -1 := by rw [szR, if_pos h1]
    go_wp2
    go_ret
    exact ⟨-1, rfl, fun h => absurd h (by decide), G⟩
  have l1 : szR (left) (x.deps.length) = left - (x.deps.length : Int) := by rw [szR, if_neg h1]
  obtain ⟨r1, hr1⟩ : ∃ r, r = szR (left) (x.deps.length) := ⟨_, rfl⟩
  rw [← hr1] at l1
  rw [← hr1]
  have g1 : 0 ≤ r1 := by omega
  have u1 : r1 ≤ 1048576 := by omega
  have HR1 := Lib.hid hr1
  have HL1 := Lib.hid l1
  have s1 : (x.deps.length : Int) ≤ 1048576 := by omega
  clear hr1 l1 h1
  go_wp2_with fail
  refine (szVerS_laws x.vers r1 x.va x.vc _ (hin.vr.below G) g1 u1).mono ?_
  rintro e w2 ⟨rfl, hb2⟩
  have BV := BV.below hb2 BV.lt
  have G := below_after G hb2
  clear p0 p1 p2 p3 p4 p5 p6 p7 p8 p9 p10 p11 p12 p13 p14 pf pl
  obtain ⟨p0, p1, p2, p3, p4, p5, p6, p7, p8, p9, p10, p11, p12, p13, p14, pf, pl⟩ := BV.word
  by_cases h2 : r1 < (sizeM x.vers : Int)
  · have hz : szR (r1) (sizeM x.vers) = -1 := by rw [szR, if_pos h2]
    go_wp2
    go_ret
    exact ⟨-1, rfl, fun h => absurd h (by decide), G⟩
  have l2 : szR (r1) (sizeM x.vers) = r1 - (sizeM x.vers : Int) := by rw [szR, if_neg h2]
  obtain ⟨r2, hr2⟩ : ∃ r, r = szR (r1) (sizeM x.vers) := ⟨_, rfl⟩
  rw [← hr2] at l2
  rw [← hr2]
  have g2 : 0 ≤ r2 := by omega
  have u2 : r2 ≤ 1048576 := by omega
  have HR2 := Lib.hid hr2
  have HL2 := Lib.hid l2
  have s2 : (sizeM x.vers : Int) ≤ 1048576 := by omega
  clear hr2 l2 h2
  go_wp2_with fail
  refine (szVerS_laws x.waits r2 x.wa x.wc _ (hin.wt.below G) g2 u2).mono ?_
  rintro e w3 ⟨rfl, hb3⟩
  have BV := BV.below hb3 BV.lt
  have G := below_after G hb3
  clear p0 p1 p2 p3 p4 p5 p6 p7 p8 p9 p10 p11 p12 p13 p14 pf pl
  obtain ⟨p0, p1, p2, p3, p4, p5, p6, p7, p8, p9, p10, p11, p12, p13, p14, pf, pl⟩ := BV.word
  by_cases h3 : r2 < (sizeM x.waits : Int)
  · have hz : szR (r2) (sizeM x.waits) = -1 := by rw [szR, if_pos h3]
    go_wp2
    go_ret
    exact ⟨-1, rfl, fun h => absurd h (by decide), G⟩
  have l3 : szR (r2) (sizeM x.waits) = r2 - (sizeM x.waits : Int) := by rw [szR, if_neg h3]
  obtain ⟨r3, hr3⟩ : ∃ r, r = szR (r2) (sizeM x.waits) := ⟨_, rfl⟩
  rw [← hr3] at l3
  rw [← hr3]
  have g3 : 0 ≤ r3 := by omega
  have u3 : r3 ≤ 1048576 := by omega
  have HR3 := Lib.hid hr3
  have HL3 := Lib.hid l3
  have s3 : (sizeM x.waits : Int) ≤ 1048576 := by omega
  clear hr3 l3 h3
  go_wp2_with fail
  refine (szDepS_laws x.owes.length r3 x.oa x.oc _ g3 u3 (by omega)).mono ?_
  rintro e w' ⟨rfl, rfl⟩
  by_cases h4 : r3 < (x.owes.length : Int)
  · have hz : szR (r3) (x.owes.length) = -1 := by rw [szR, if_pos h4]
    go_wp2
    go_ret
    exact ⟨-1, rfl, fun h => absurd h (by decide), G⟩
  have l4 : szR (r3) (x.owes.length) = r3 - (x.owes.length : Int) := by rw [szR, if_neg h4]
  obtain ⟨r4, hr4⟩ : ∃ r, r = szR (r3) (x.owes.length) := ⟨_, rfl⟩
  rw [← hr4] at l4
  rw [← hr4]
  have g4 : 0 ≤ r4 := by omega
  have u4 : r4 ≤ 1048576 := by omega
  have HR4 := Lib.hid hr4
  have HL4 := Lib.hid l4
  have s4 : (x.owes.length : Int) ≤ 1048576 := by omega
  clear hr4 l4 h4
  go_wp2
  go_ret
  exact ⟨r4, rfl, fun _ => ⟨by omega, by omega, by omega, by omega⟩, G⟩

set_option maxHeartbeats 2000000 in
theorem eqWord_same (x : Mw) (A B A' B' : List Mv) (p1 pa pb p2 p1' pa' pb' p2' : Option Addr) (c1 ca cb c2 c1' ca' cb' c2' : Nat) (w : World)
    (d1 : Reads w p1 x.deps.length c1 (dpsC x.deps)) (d2 : Reads w p1' x.deps.length c1' (dpsC x.deps)) (a1 : Vers w pa ca A) (a2 : Vers w pa' ca' A') (hA : vs A' = vs A)
    (b1 : Vers w pb cb B) (b2 : Vers w pb' cb' B') (hB : vs B' = vs B) (o1 : Reads w p2 x.owes.length c2 (dpsC x.owes)) (o2 : Reads w p2' x.owes.length c2' (dpsC x.owes)) :
    Calls Try.prog 58 #[.agg #[.int .i64 x.kind, .int .i64 x.frm, .int .i64 x.to, .int .i64 x.call, .int .i64 x.key, .int .i64 x.time, .int .i64 x.site, .int .i64 x.val, .bool x.yes, .slice p1 x.deps.length c1, .int .i64 x.slot, .int .i64 x.epoch, .slice pa A.length ca, .slice pb B.length cb, .slice p2 x.owes.length c2], .agg #[.int .i64 x.kind, .int .i64 x.frm, .int .i64 x.to, .int .i64 x.call, .int .i64 x.key, .int .i64 x.time, .int .i64 x.site, .int .i64 x.val, .bool x.yes, .slice p1' x.deps.length c1', .int .i64 x.slot, .int .i64 x.epoch, .slice pa' A'.length ca', .slice pb' B'.length cb', .slice p2' x.owes.length c2']] w fun e w' => e = .returned (.bool true) ∧ Below w.heap.size w w' := by
  have G := below_box2 w (.cells #[.int .i64 x.kind, .int .i64 x.frm, .int .i64 x.to, .int .i64 x.call, .int .i64 x.key, .int .i64 x.time, .int .i64 x.site, .int .i64 x.val, .bool x.yes, .slice p1 x.deps.length c1, .int .i64 x.slot, .int .i64 x.epoch, .slice pa A.length ca, .slice pb B.length cb, .slice p2 x.owes.length c2] 78) (.cells #[.int .i64 x.kind, .int .i64 x.frm, .int .i64 x.to, .int .i64 x.call, .int .i64 x.key, .int .i64 x.time, .int .i64 x.site, .int .i64 x.val, .bool x.yes, .slice p1' x.deps.length c1', .int .i64 x.slot, .int .i64 x.epoch, .slice pa' A'.length ca', .slice pb' B'.length cb', .slice p2' x.owes.length c2'] 78)
  have C1 := (Blk.new w #[.int .i64 x.kind, .int .i64 x.frm, .int .i64 x.to, .int .i64 x.call, .int .i64 x.key, .int .i64 x.time, .int .i64 x.site, .int .i64 x.val, .bool x.yes, .slice p1 x.deps.length c1, .int .i64 x.slot, .int .i64 x.epoch, .slice pa A.length ca, .slice pb B.length cb, .slice p2 x.owes.length c2] 78).alloc (.cells #[.int .i64 x.kind, .int .i64 x.frm, .int .i64 x.to, .int .i64 x.call, .int .i64 x.key, .int .i64 x.time, .int .i64 x.site, .int .i64 x.val, .bool x.yes, .slice p1' x.deps.length c1', .int .i64 x.slot, .int .i64 x.epoch, .slice pa' A'.length ca', .slice pb' B'.length cb', .slice p2' x.owes.length c2'] 78)
  have C2 := Blk.new (w.alloc (.cells #[.int .i64 x.kind, .int .i64 x.frm, .int .i64 x.to, .int .i64 x.call, .int .i64 x.key, .int .i64 x.time, .int .i64 x.site, .int .i64 x.val, .bool x.yes, .slice p1 x.deps.length c1, .int .i64 x.slot, .int .i64 x.epoch, .slice pa A.length ca, .slice pb B.length cb, .slice p2 x.owes.length c2] 78)) #[.int .i64 x.kind, .int .i64 x.frm, .int .i64 x.to, .int .i64 x.call, .int .i64 x.key, .int .i64 x.time, .int .i64 x.site, .int .i64 x.val, .bool x.yes, .slice p1' x.deps.length c1', .int .i64 x.slot, .int .i64 x.epoch, .slice pa' A'.length ca', .slice pb' B'.length cb', .slice p2' x.owes.length c2'] 78
  simp only [World.size_alloc] at C2
  have hyy : (x.yes != x.yes) = false := by cases x.yes <;> rfl
  obtain ⟨x0, x1, x2, x3, x4, x5, x6, x7, x8, x9, x10, x11, x12, x13, x14, xf, xl⟩ := C1.word
  obtain ⟨y0, y1, y2, y3, y4, y5, y6, y7, y8, y9, y10, y11, y12, y13, y14, yf, yl⟩ := C2.word
  go_enter Try.func58, Try.ntmps58
  go_wp2_with fail
  refine (eqStamp_same _ _ _).mono ?_
  rintro e w1 ⟨rfl, hb1⟩
  have C1 := C1.below hb1 C1.lt
  have C2 := C2.below hb1 C2.lt
  have G := below_after G hb1
  clear x0 y0 x1 y1 x2 y2 x3 y3 x4 y4 x5 y5 x6 y6 x7 y7 x8 y8 x9 y9 x10 y10 x11 y11 x12 y12 x13 y13 x14 y14 xf xl yf yl
  obtain ⟨x0, x1, x2, x3, x4, x5, x6, x7, x8, x9, x10, x11, x12, x13, x14, xf, xl⟩ := C1.word
  obtain ⟨y0, y1, y2, y3, y4, y5, y6, y7, y8, y9, y10, y11, y12, y13, y14, yf, yl⟩ := C2.word
  go_wp2_with fail
  refine (eqDepS_same x.deps p1 p1' c1 c1' _ (d1.below G) (d2.below G)).mono ?_
  rintro e w2 ⟨rfl, hb2⟩
  have C1 := C1.below hb2 C1.lt
  have C2 := C2.below hb2 C2.lt
  have G := below_after G hb2
  clear x0 y0 x1 y1 x2 y2 x3 y3 x4 y4 x5 y5 x6 y6 x7 y7 x8 y8 x9 y9 x10 y10 x11 y11 x12 y12 x13 y13 x14 y14 xf xl yf yl
  obtain ⟨x0, x1, x2, x3, x4, x5, x6, x7, x8, x9, x10, x11, x12, x13, x14, xf, xl⟩ := C1.word
  obtain ⟨y0, y1, y2, y3, y4, y5, y6, y7, y8, y9, y10, y11, y12, y13, y14, yf, yl⟩ := C2.word
  go_wp2_with fail
  refine (eqVerS_same A A' pa pa' ca ca' _ (a1.below G) (a2.below G) hA).mono ?_
  rintro e w3 ⟨rfl, hb3⟩
  have C1 := C1.below hb3 C1.lt
  have C2 := C2.below hb3 C2.lt
  have G := below_after G hb3
  clear x0 y0 x1 y1 x2 y2 x3 y3 x4 y4 x5 y5 x6 y6 x7 y7 x8 y8 x9 y9 x10 y10 x11 y11 x12 y12 x13 y13 x14 y14 xf xl yf yl
  obtain ⟨x0, x1, x2, x3, x4, x5, x6, x7, x8, x9, x10, x11, x12, x13, x14, xf, xl⟩ := C1.word
  obtain ⟨y0, y1, y2, y3, y4, y5, y6, y7, y8, y9, y10, y11, y12, y13, y14, yf, yl⟩ := C2.word
  go_wp2_with fail
  refine (eqVerS_same B B' pb pb' cb cb' _ (b1.below G) (b2.below G) hB).mono ?_
  rintro e w4 ⟨rfl, hb4⟩
  have C1 := C1.below hb4 C1.lt
  have C2 := C2.below hb4 C2.lt
  have G := below_after G hb4
  clear x0 y0 x1 y1 x2 y2 x3 y3 x4 y4 x5 y5 x6 y6 x7 y7 x8 y8 x9 y9 x10 y10 x11 y11 x12 y12 x13 y13 x14 y14 xf xl yf yl
  obtain ⟨x0, x1, x2, x3, x4, x5, x6, x7, x8, x9, x10, x11, x12, x13, x14, xf, xl⟩ := C1.word
  obtain ⟨y0, y1, y2, y3, y4, y5, y6, y7, y8, y9, y10, y11, y12, y13, y14, yf, yl⟩ := C2.word
  go_wp2_with fail
  refine (eqDepS_same x.owes p2 p2' c2 c2' _ (o1.below G) (o2.below G)).mono ?_
  rintro e w5 ⟨rfl, hb5⟩
  have C1 := C1.below hb5 C1.lt
  have C2 := C2.below hb5 C2.lt
  have G := below_after G hb5
  clear x0 y0 x1 y1 x2 y2 x3 y3 x4 y4 x5 y5 x6 y6 x7 y7 x8 y8 x9 y9 x10 y10 x11 y11 x12 y12 x13 y13 x14 y14 xf xl yf yl
  obtain ⟨x0, x1, x2, x3, x4, x5, x6, x7, x8, x9, x10, x11, x12, x13, x14, xf, xl⟩ := C1.word
  obtain ⟨y0, y1, y2, y3, y4, y5, y6, y7, y8, y9, y10, y11, y12, y13, y14, yf, yl⟩ := C2.word
  go_wp2
  go_ret
  exact ⟨rfl, G⟩

section
variable {H : Type} {enc : TypeId × Value → H} {P : Program} {w : World} {base : Nat} {spare : Nat → Bool} {held : Bool} {r : Reach} {b0 : Nat} {t e : TypeId} {v : Value} {d : DataW H} {p : List MemPlace}
/-- What a struct type must be so that it is a word. -/
structure IsWord (P : Program) (t : TypeId) (ki fr to ca ke st va ye de sl ep ve wa ow sf0 sf1 vk vst vva vcl vca vde vg0 vg1 vf0 vf1 vf2 vf3 dg0 dg1 df0 df1 : Field) (de_ ve_ e : TypeId) : Prop where
  under : P.underlying t = some (.struct #[ki, fr, to, ca, ke, st, va, ye, de, sl, ep, ve, wa, ow])
  size : P.cellsOf t = 15
  o0 : ki.offset = 0
  t0 : P.underlying ki.type = some (.int .i64)
  s0 : P.cellsOf ki.type = 1
  o1 : fr.offset = 1
  t1 : P.underlying fr.type = some (.int .i64)
  s1 : P.cellsOf fr.type = 1
  o2 : to.offset = 2
  t2 : P.underlying to.type = some (.int .i64)
  s2 : P.cellsOf to.type = 1
  o3 : ca.offset = 3
  t3 : P.underlying ca.type = some (.int .i64)
  s3 : P.cellsOf ca.type = 1
  o4 : ke.offset = 4
  t4 : P.underlying ke.type = some (.int .i64)
  s4 : P.cellsOf ke.type = 1
  o5 : st.offset = 5
  t5 : IsStamp P st.type sf0 sf1
  o6 : va.offset = 7
  t6 : P.underlying va.type = some (.int .i64)
  s6 : P.cellsOf va.type = 1
  o7 : ye.offset = 8
  t7 : P.underlying ye.type = some .bool
  s7 : P.cellsOf ye.type = 1
  o8 : de.offset = 9
  t8 : P.underlying de.type = some (.slice de_)
  s8 : P.cellsOf de.type = 1
  o9 : sl.offset = 10
  t9 : P.underlying sl.type = some (.int .i64)
  s9 : P.cellsOf sl.type = 1
  o10 : ep.offset = 11
  t10 : P.underlying ep.type = some (.int .i64)
  s10 : P.cellsOf ep.type = 1
  o11 : ve.offset = 12
  t11 : P.underlying ve.type = some (.slice ve_)
  s11 : P.cellsOf ve.type = 1
  o12 : wa.offset = 13
  t12 : P.underlying wa.type = some (.slice ve_)
  s12 : P.cellsOf wa.type = 1
  o13 : ow.offset = 14
  t13 : P.underlying ow.type = some (.slice de_)
  s13 : P.cellsOf ow.type = 1
  td : IsDep P de_ dg0 dg1 df0 df1
  tv : IsVer P ve_ vk vst vva vcl vca vde vg0 vg1 vf0 vf1 vf2 vf3 e
def wordC (x : Mw) : List Value := [.int .i64 x.kind, .int .i64 x.frm, .int .i64 x.to, .int .i64 x.call, .int .i64 x.key, .int .i64 x.time, .int .i64 x.site, .int .i64 x.val, .bool x.yes, .slice x.da x.deps.length x.dc, .int .i64 x.slot, .int .i64 x.epoch, .slice x.va x.vers.length x.vc, .slice x.wa x.waits.length x.wc, .slice x.oa x.owes.length x.oc]
theorem i64_of {n : Int} (h : (Lit.int .i64 n).wf = true) : I64 n := bounds_i64 h
theorem word_cells {ki fr to ca ke st va ye de sl ep ve wa ow sf0 sf1 vk vst vva vcl vca vde vg0 vg1 vf0 vf1 vf2 vf3 dg0 dg1 df0 df1 : Field} {de_ ve_ : TypeId} (hs : IsWord P t ki fr to ca ke st va ye de sl ep ve wa ow sf0 sf1 vk vst vva vcl vca vde vg0 vg1 vf0 vf1 vf2 vf3 dg0 dg1 df0 df1 de_ ve_ e) {fuel : Nat} {cs : List Value} {x : DataW H × List MemPlace} (h : DataW.trod enc P w base spare held fuel t cs = some x) :
    ∃ m : Mw, cs = wordC m ∧ WordIn w m ∧ I64 m.frm ∧ I64 m.to := by
  obtain ⟨xs, n, _, _, hlen, hx, hf⟩ := DataW.trod_struct hs.under h
  rw [hs.size] at hlen
  match cs, hlen with
  | [c0, c1, c2, c3, c4, c5, c6, c7, c8, c9, c10, c11, c12, c13, c14], _ =>
    have h0 := hf 0 ki rfl
    have h1 := hf 1 fr rfl
    have h2 := hf 2 to rfl
    have h3 := hf 3 ca rfl
    have h4 := hf 4 ke rfl
    have h5 := hf 5 st rfl
    have h6 := hf 6 va rfl
    have h7 := hf 7 ye rfl
    have h8 := hf 8 de rfl
    have h9 := hf 9 sl rfl
    have h10 := hf 10 ep rfl
    have h11 := hf 11 ve rfl
    have h12 := hf 12 wa rfl
    have h13 := hf 13 ow rfl
    rw [hs.o0, hs.s0] at h0
    rw [hs.o1, hs.s1] at h1
    rw [hs.o2, hs.s2] at h2
    rw [hs.o3, hs.s3] at h3
    rw [hs.o4, hs.s4] at h4
    rw [hs.o5, hs.t5.size] at h5
    rw [hs.o6, hs.s6] at h6
    rw [hs.o7, hs.s7] at h7
    rw [hs.o8, hs.s8] at h8
    rw [hs.o9, hs.s9] at h9
    rw [hs.o10, hs.s10] at h10
    rw [hs.o11, hs.s11] at h11
    rw [hs.o12, hs.s12] at h12
    rw [hs.o13, hs.s13] at h13
    match xs, hx with
    | [y0, y1, y2, y3, y4, y5, y6, y7, y8, y9, y10, y11, y12, y13], _ =>
      simp at h0 h1 h2 h3 h4 h5 h6 h7 h8 h9 h10 h11 h12 h13
      obtain ⟨a0, e0, _, i0⟩ := DataW.trod_int hs.t0 h0
      obtain ⟨a1, e1, _, i1⟩ := DataW.trod_int hs.t1 h1
      obtain ⟨a2, e2, _, i2⟩ := DataW.trod_int hs.t2 h2
      obtain ⟨a3, e3, _, i3⟩ := DataW.trod_int hs.t3 h3
      obtain ⟨a4, e4, _, i4⟩ := DataW.trod_int hs.t4 h4
      obtain ⟨a5, b5, e5, _, _⟩ := stamp_cells hs.t5 h5
      obtain ⟨a6, e6, _, i6⟩ := DataW.trod_int hs.t6 h6
      obtain ⟨a7, e7, _⟩ := DataW.trod_bool hs.t7 h7
      obtain ⟨q8, r8, l8, e8, d8⟩ := deps_cells hs.t8 hs.td h8
      obtain ⟨a9, e9, _, i9⟩ := DataW.trod_int hs.t9 h9
      obtain ⟨a10, e10, _, i10⟩ := DataW.trod_int hs.t10 h10
      obtain ⟨q11, r11, l11, e11, d11⟩ := vers_cells hs.t11 hs.tv h11
      obtain ⟨q12, r12, l12, e12, d12⟩ := vers_cells hs.t12 hs.tv h12
      obtain ⟨q13, r13, l13, e13, d13⟩ := deps_cells hs.t13 hs.td h13
      simp only [List.cons.injEq, and_true] at e0 e1 e2 e3 e4 e5 e6 e7 e8 e9 e10 e11 e12 e13
      obtain ⟨rfl, rfl⟩ := e5
      subst e0 e1 e2 e3 e4 e6 e7 e8 e9 e10 e11 e12 e13
      exact ⟨{ kind := a0, frm := a1, to := a2, call := a3, key := a4, time := a5, site := b5, val := a6, yes := a7, deps := l8, slot := a9, epoch := a10, vers := l11, waits := l12, owes := l13, da := q8, dc := r8, va := q11, vc := r11, wa := q12, wc := r12, oa := q13, oc := r13 }, rfl, ⟨d8, d11, d12, d13⟩, i64_of i1, i64_of i2⟩
theorem word_of {ki fr to ca ke st va ye de sl ep ve wa ow sf0 sf1 vk vst vva vcl vca vde vg0 vg1 vf0 vf1 vf2 vf3 dg0 dg1 df0 df1 : Field} {de_ ve_ : TypeId} (hs : IsWord P t ki fr to ca ke st va ye de sl ep ve wa ow sf0 sf1 vk vst vva vcl vca vde vg0 vg1 vf0 vf1 vf2 vf3 dg0 dg1 df0 df1 de_ ve_ e) (hv : Value.okWide P w r b0 t v) (h : DataW.Trod enc P w base spare held t v d p) :
    ∃ x : Mw, v = .agg #[.int .i64 x.kind, .int .i64 x.frm, .int .i64 x.to, .int .i64 x.call, .int .i64 x.key, .int .i64 x.time, .int .i64 x.site, .int .i64 x.val, .bool x.yes, .slice x.da x.deps.length x.dc, .int .i64 x.slot, .int .i64 x.epoch, .slice x.va x.vers.length x.vc, .slice x.wa x.waits.length x.wc, .slice x.oa x.owes.length x.oc] ∧ WordIn w x ∧ I64 x.frm ∧ I64 x.to := by
  obtain ⟨cs, rfl, hsz⟩ := okWide_struct hs.under hv
  obtain ⟨fuel, hf⟩ := h
  obtain ⟨m, ha, hb⟩ := word_cells hs hf
  refine ⟨m, ?_, hb⟩
  obtain ⟨l⟩ := cs
  simp [Value.cells, wordC] at ha
  rw [ha]
end
theorem isWordL : ∃ ki fr to ca ke st va ye de sl ep ve wa ow sf0 sf1 vk vst vva vcl vca vde vg0 vg1 vf0 vf1 vf2 vf3 dg0 dg1 df0 df1 de_ ve_ e, IsWord Try.prog 74 ki fr to ca ke st va ye de sl ep ve wa ow sf0 sf1 vk vst vva vcl vca vde vg0 vg1 vf0 vf1 vf2 vf3 dg0 dg1 df0 df1 de_ ve_ e := by
  obtain ⟨f0, f1, hs⟩ := isStampL
  obtain ⟨_, _, _, _, hd⟩ := isDepL
  obtain ⟨_, _, _, _, _, _, _, _, _, _, _, _, _, hv⟩ := isVerL
  refine ⟨_, _, _, _, _, _, _, _, _, _, _, _, _, _, f0, f1, _, _, _, _, _, _, _, _, _, _, _, _, _, _, _, _, 97, 106, _, Try.underlying74, by kernel_rfl, rfl, Try.underlying3, by kernel_rfl, rfl, Try.underlying3, by kernel_rfl, rfl, Try.underlying3, by kernel_rfl, rfl, Try.underlying3, by kernel_rfl, rfl, Try.underlying3, by kernel_rfl, rfl, hs, rfl, Try.underlying3, by kernel_rfl, rfl, Try.underlying4, by kernel_rfl, rfl, Try.underlying36, by kernel_rfl, rfl, Try.underlying3, by kernel_rfl, rfl, Try.underlying3, by kernel_rfl, rfl, Try.underlying51, by kernel_rfl, rfl, Try.underlying51, by kernel_rfl, rfl, Try.underlying36, by kernel_rfl, hd, hv⟩
end Go.Proofs.Ytiigdbmfpibbdaa
