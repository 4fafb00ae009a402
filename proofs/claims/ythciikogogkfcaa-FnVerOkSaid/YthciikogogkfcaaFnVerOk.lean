/- A version is newer than all that it came of. Of every input that the given statement lets in. -/
import Derived.Test.YthciikogogkfcaaOpen
import Derived.Test.YthciikogogkfcaaDrawV
import Derived.Test.YthciikogogkfcaaVerW
import Derived.Deep.RegionHeld3
namespace Go.Proofs.Ythciikogogkfcaa.fnVerOk
open Go.ChangeShapes Go.WideShapes Go.ChangeAt Go.RowKit
set_option linter.unusedVariables false
theorem okFrom_low {a b : Int} {l : List Dp} (h : okFrom b l = true) (hab : a ≤ b) : okFrom a l = true := by
  cases l with
  | nil => rfl
  | cons d l =>
    simp only [okFrom, Bool.and_eq_true, decide_eq_true_eq] at h ⊢
    exact ⟨⟨by omega, h.1.2⟩, h.2⟩
theorem okFrom_less {a : Int} {l : List Dp} (k : Nat) (h : okFrom a l = true) : okFrom a (l.take k ++ l.drop (k + 1)) = true := by
  induction l generalizing a k with
  | nil => simp [okFrom]
  | cons d l ih =>
    have h' := h
    simp only [okFrom, Bool.and_eq_true, decide_eq_true_eq] at h
    cases k with
    | zero =>
      simp only [List.take_zero, List.nil_append, Nat.zero_add, List.drop_succ_cons, List.drop_zero]
      exact okFrom_low h.2 (by omega)
    | succ k =>
      simp only [List.take_succ_cons, List.drop_succ_cons, List.cons_append, okFrom, Bool.and_eq_true, decide_eq_true_eq]
      exact ⟨h.1, ih k h.2⟩
theorem older_less {t : Int} {l : List Dp} (k : Nat) (h : olderB t l = true) : olderB t (l.take k ++ l.drop (k + 1)) = true := by
  unfold olderB at h ⊢
  rw [List.all_eq_true] at h ⊢
  intro x hx
  rcases List.mem_append.1 hx with hx | hx
  · exact h x (List.mem_of_mem_take hx)
  · exact h x (List.mem_of_mem_drop hx)
/-- A version without one of its dependencies. -/
def lessV (v : Vp) (k : Nat) : Vp := { v with deps := v.deps.take k ++ v.deps.drop (k + 1) }
theorem lessV_ok {v : Vp} (k : Nat) (h : verOkB v = true) : verOkB (lessV v k) = true := by
  simp only [verOkB, Bool.and_eq_true] at h ⊢
  exact ⟨h.1, okFrom_less k h.2.1, older_less k h.2.2⟩
theorem ver_newer {v : Vp} (h : verOkB v = true) (k : Nat) (hk : k < v.deps.length) : stampLessB v.deps[k].2.1 v.deps[k].2.2 v.time v.site = true := by
  simp only [verOkB, Bool.and_eq_true] at h
  have h2 := h.2.2
  unfold olderB at h2
  rw [List.all_eq_true] at h2
  have := h2 _ (List.getElem_mem hk)
  simp only [decide_eq_true_eq] at this
  simp [stampLessB, this]
theorem dpsC_take (l : List Dp) (k : Nat) (hk : k ≤ l.length) : dpsC (l.take k) = (dpsC l).take (k * 3) := by
  induction l generalizing k with
  | nil => simp [dpsC]
  | cons d l ih =>
    cases k with
    | zero => simp [dpsC]
    | succ k =>
      have := ih k (by simpa using hk)
      simp only [dpsC, dpC, List.take_succ_cons, List.flatMap_cons, List.cons_append, List.nil_append] at this ⊢
      rw [this, show (k + 1) * 3 = k * 3 + 1 + 1 + 1 by omega]; simp
theorem dpsC_drop (l : List Dp) (k : Nat) : dpsC (l.drop k) = (dpsC l).drop (k * 3) := by
  induction l generalizing k with
  | nil => simp [dpsC]
  | cons d l ih =>
    cases k with
    | zero => simp [dpsC]
    | succ k =>
      have := ih k
      simp only [dpsC, dpC, List.drop_succ_cons, List.flatMap_cons, List.cons_append, List.nil_append] at this ⊢
      rw [this, show (k + 1) * 3 = k * 3 + 1 + 1 + 1 by omega]; simp
theorem dpsC_app (l m : List Dp) : dpsC (l ++ m) = dpsC l ++ dpsC m := by simp [dpsC]
/-- The first of what can be read can be read. -/
theorem reads_take {w : World} {b off c : Nat} {l : List Dp} (h : Reads w (some ⟨b, off, none⟩) l.length c (dpsC l)) (k c' : Nat) (hk : k ≤ l.length) (hc : k ≤ c') (hcm : c' ≤ maxLen) : Reads w (some ⟨b, off, none⟩) k c' (dpsC (l.take k)) := by
  obtain ⟨h1, h2, h3⟩ := h
  refine ⟨hc, hcm, fun hne => ?_⟩
  have hl : dpsC l ≠ [] := by
    rintro e
    rw [dpsC_take l k hk, e] at hne
    simp at hne
  obtain ⟨b', off', e, hb, hcell⟩ := h3 hl
  cases e
  refine ⟨b, off, rfl, hb, fun j u hj => hcell j u ?_⟩
  rw [dpsC_take l k hk, List.getElem?_take] at hj
  split at hj
  · exact hj
  · cases hj
theorem reads_drop {w : World} {b off c : Nat} {l : List Dp} (h : Reads w (some ⟨b, off, none⟩) l.length c (dpsC l)) (k c' : Nat) (hk : k ≤ l.length) (hc : l.length - k ≤ c') (hcm : c' ≤ maxLen) : Reads w (some ⟨b, off + k * 3, none⟩) (l.length - k) c' (dpsC (l.drop k)) := by
  obtain ⟨h1, h2, h3⟩ := h
  refine ⟨hc, hcm, fun hne => ?_⟩
  have hl : dpsC l ≠ [] := by
    rintro e
    rw [dpsC_drop l k, e] at hne
    simp at hne
  obtain ⟨b', off', e, hb, hcell⟩ := h3 hl
  cases e
  refine ⟨b, off + k * 3, rfl, hb, fun j u hj => ?_⟩
  rw [dpsC_drop l k, List.getElem?_drop] at hj
  have := hcell _ u hj
  rwa [← Nat.add_assoc] at this
theorem reads_dropI {w : World} {b off c : Nat} {l : List Dp} (h : Reads w (some ⟨b, off, none⟩) l.length c (dpsC l)) (k : Nat) (hk : k ≤ l.length) : Reads w (if c = k then some ⟨b, off, none⟩ else some ⟨b, off + k * 3, none⟩) (l.length - k) (c - k) (dpsC (l.drop k)) := by
  have h1 := h.1
  have h2 := h.2.1
  split
  · refine ⟨by omega, by omega, fun hne => absurd ?_ hne⟩
    rw [List.drop_eq_nil_of_le (by omega)]; rfl
  · exact reads_drop h k (c - k) hk (by omega) (by omega)
theorem step_append_src {P : Program} {w : World} {ops : Array Oper} {o : Oper} {a : Act} {K : Act → World → Prop} {Q : Exit → Act → World → Prop} {E : Prop} (hgd : o.guard = none) (s x : Operand) (t : TypeId)
    (ho : o.op = .call { callee := .builtin .append, args := #[s, x], argTypes := #[t, t] })
    (base : Nat) (e : TypeId) (i : TypeInfo) (z : Value) (size bytes : Nat) (ht : P.underlying t = some (.slice e)) (hi : P.info? e = some i) (hz : i.zero = some z)
    (hsize : i.size = size) (hby : i.bytes = bytes) (hzs : z.cells.size = size) (hsz : 0 < size)
    (v : Value) (n : Nat) (xs : List Value) (hs : a.eval s = v) (hown : w.ownsRow base e size v n xs)
    (A : Option Addr) (m c : Nat) (news : List Value) (hx : a.eval x = .slice A m c) (hl : news.length = m * size) (hr : Reads w A m c news) (h1 : ∀ u ∈ news, u.oneCell' = true)
    (h63 : n + m ≤ maxLen) (hbytes : (n + m) * bytes ≤ 140737488355328) (hbase : base ≤ w.heap.size)
    (h : ∀ v' w', w'.ownsRow base e size v' (n + m) (xs ++ news) → w.grownBy w' v.ownBlock → K (a.put o.dst v') w') :
    if Region.wanted o (yielded ops a.tmps) = true then Oper.wp P o a w K Q else E := by
  have hw : Region.wanted o (yielded ops a.tmps) = true := by simp [Region.wanted, hgd]
  rw [if_pos hw]
  obtain ⟨v', w', hrun, h2, h3⟩ := run_append_src (P := P) w base t o.type e i z size bytes ht hi hz hsize hby hzs hsz v n xs hown A m c news hl hr h1 h63 hbytes hbase
  unfold Oper.wp execOp
  simp only [ho, resolve, invoke, builtin, Sem.run_bind, Sem.run_pure, Result.andThen_ok, List.map_toArray, List.map_cons, List.map_nil, hs, hx, hrun]
  exact h v' w' h2 h3
def DrawnVerOk (w : World) (e : Ending) (w' : World) : Prop := ∃ (v : Vp) (a : Option Addr) (c : Nat), e = .returned (.agg #[.int .i64 v.key, .int .i64 v.time, .int .i64 v.site, .int .i64 v.val, .int .i64 v.client, .int .i64 v.call, .slice a v.deps.length c]) ∧ v.deps.length ≤ 3 ∧ Reads w' a v.deps.length c (dpsC v.deps) ∧ Below w.heap.size w w'
set_option maxHeartbeats 1000000 in
theorem DrawVerOk_any (a : Option Addr) (len cap : Nat) (w : World) (hb : BytesIn w a len cap) :
    Calls Try.prog 10 #[.slice a len cap] w (DrawnVerOk w) := by
  have BR := Blk.new w #[.int .i64 0, .int .i64 0, .int .i64 0, .int .i64 0, .int .i64 0, .int .i64 0, .slice none 0 0] 27
  have G0 := below_box w (.cells #[.int .i64 0, .int .i64 0, .int .i64 0, .int .i64 0, .int .i64 0, .int .i64 0, .slice none 0 0] 27)
  go_enter Try.func10, Try.ntmps10
  go_wp2_with fail
  refine (open_any a len cap _ (hb.alloc (.cells #[.int .i64 0, .int .i64 0, .int .i64 0, .int .i64 0, .int .i64 0, .int .i64 0, .slice none 0 0] 27))).mono ?_
  rintro e w1 ⟨rfl, hr1, hb1⟩
  simp only [World.size_alloc] at hr1
  have BR := BR.below hb1 BR.lt
  have G0 := below_after G0 hb1
  have hN := hr1.le
  go_wp2_with fail
  refine (l72Ver_any _ _ _ _ hr1 (by omega)).mono ?_
  rintro e w2 ⟨v, p, c, q2, rfl, hd, own, hq2, hr2, hg2⟩
  have hszb := BR.lt
  have BR := BR.grown hg2 (by omega)
  have G0 := below_grown G0 hg2 (by omega)
  obtain ⟨r0, r1, r2, r3, r4, r5, r6, rf, rl⟩ := BR.seven
  have rd := Reads.own own
  have G9 := (below_setb (below_setb (below_setb (below_setb (below_setb (below_setb (below_setb G0 (b := w.heap.size) (o := 0) (Nat.le_refl _) (.int .i64 v.key)) (b := w.heap.size) (o := 1) (Nat.le_refl _) (.int .i64 v.time)) (b := w.heap.size) (o := 2) (Nat.le_refl _) (.int .i64 v.site)) (b := w.heap.size) (o := 3) (Nat.le_refl _) (.int .i64 v.val)) (b := w.heap.size) (o := 4) (Nat.le_refl _) (.int .i64 v.client)) (b := w.heap.size) (o := 5) (Nat.le_refl _) (.int .i64 v.call)) (b := w.heap.size) (o := 6) (Nat.le_refl _) (.slice p v.deps.length c))
  have rd9 := Reads.own (own_set (own_set (own_set (own_set (own_set (own_set (own_set own (own_ne' own (b := w.heap.size) (by omega)) (o := 0) (.int .i64 v.key)) (own_ne' own (b := w.heap.size) (by omega)) (o := 1) (.int .i64 v.time)) (own_ne' own (b := w.heap.size) (by omega)) (o := 2) (.int .i64 v.site)) (own_ne' own (b := w.heap.size) (by omega)) (o := 3) (.int .i64 v.val)) (own_ne' own (b := w.heap.size) (by omega)) (o := 4) (.int .i64 v.client)) (own_ne' own (b := w.heap.size) (by omega)) (o := 5) (.int .i64 v.call)) (own_ne' own (b := w.heap.size) (by omega)) (o := 6) (.slice p v.deps.length c))
  go_wp2
  exact bodyPost_ret (v := .agg #[.int .i64 v.key, .int .i64 v.time, .int .i64 v.site, .int .i64 v.val, .int .i64 v.client, .int .i64 v.call, .slice p v.deps.length c]) (by simp [results, Try.results10, go_sem, *]) rfl ⟨v, p, c, rfl, hd, rd9, G9⟩
set_option maxRecDepth 100000 in
set_option maxHeartbeats 8000000 in
theorem walk (a0 : Option Addr) (l0 k0 : Nat) (w : World) (w0 : BytesIn w a0 l0 k0) :
    Calls Try.prog 3 #[.slice a0 l0 k0] w fun e w' => e = .returned (.bool true) ∧ Below w.heap.size w w' := by
  by_cases hbig : 1048576 < l0
  · have hbig' : (1048576 : Int) < (l0 : Int) := by omega
    go_enter Try.func3, Try.ntmps3
    go_wp2
    go_ret
    exact ⟨rfl, Below.refl _ _⟩
  · have hbig' : (l0 : Int) ≤ (1048576 : Int) := by omega
    go_enter Try.func3, Try.ntmps3
    go_wp2_with fail
    refine (DrawVerOk_any _ _ _ _ w0).mono ?_
    rintro e w1 ⟨v, p, c, rfl, hd, rd, hb1⟩
    have G0 := hb1
    have hd0 := hd
    have BV := Blk.new w1 #[.int .i64 v.key, .int .i64 v.time, .int .i64 v.site, .int .i64 v.val, .int .i64 v.client, .int .i64 v.call, .slice p v.deps.length c] 27
    have hbBV := below_box w1 (.cells #[.int .i64 v.key, .int .i64 v.time, .int .i64 v.site, .int .i64 v.val, .int .i64 v.client, .int .i64 v.call, .slice p v.deps.length c] 27)
    have G0 := below_after G0 hbBV
    have rd := rd.below hbBV
    obtain ⟨b, hb_⟩ : ∃ b, verOkB v = b := ⟨_, rfl⟩
    have hbb : (b != b) = false := by cases b <;> rfl
    have hbe : (b == b) = true := by cases b <;> rfl
    have HB := Lib.hid hb_
    clear hb_
    obtain ⟨BV0, BV1, BV2, BV3, BV4, BV5, BV6, BVf, BVl⟩ := BV.seven
    go_wp2_with fail
    refine (bool_is HB.out (VerOk_impl v p c _ rd (by omega))).mono ?_
    rintro e w2 ⟨rfl, hb2⟩
    have BV := BV.below hb2 BV.lt
    have G0 := below_after G0 hb2
    have rd := rd.below hb2
    have ls2 := hb2.size
    obtain ⟨BV0, BV1, BV2, BV3, BV4, BV5, BV6, BVf, BVl⟩ := BV.seven
    go_wp2_with fail
    refine (bool_is HB.out (VerOk_spec v p c _ rd (by omega))).mono ?_
    rintro e w3 ⟨rfl, hb3⟩
    have BV := BV.below hb3 BV.lt
    have G0 := below_after G0 hb3
    have rd := rd.below hb3
    have ls3 := hb3.size
    cases b with
    | false =>
      obtain ⟨BV0, BV1, BV2, BV3, BV4, BV5, BV6, BVf, BVl⟩ := BV.seven
      go_wp2_with fail
      refine (bool_is HB.out (VerOk_spec v p c _ rd (by omega))).mono ?_
      rintro e w4 ⟨rfl, hb4⟩
      have BV := BV.below hb4 BV.lt
      have G0 := below_after G0 hb4
      have rd := rd.below hb4
      have ls4 := hb4.size
      go_wp2
      go_ret
      exact ⟨rfl, G0⟩
    | true =>
      go_wp2
      go_loopw [5, 6] (fun i _ wr => ∃ k : Nat, k ≤ v.deps.length ∧ i = .int .i64 k ∧ Below w3.heap.size w3 wr) (fun i _ _ => v.deps.length - (intOf i).toNat)
      case atStart => exact ⟨0, Nat.zero_le _, rfl, Below.refl _ _⟩
      case round =>
        obtain ⟨k, hk, rfl, hbk⟩ := hrel
        have BV := BV.below hbk BV.lt
        have G0 := below_after G0 hbk
        have rd := rd.below hbk
        by_cases hlt : k < v.deps.length
        · skip
          have hless := ver_newer HB.out k hlt
          have hi0 : (0 : Int) ≤ (k : Int) := by omega
          have hi1 : (k : Int) < (v.deps.length : Int) := by omega
          have rdx := rd
          obtain ⟨_, _, h3⟩ := rdx
          obtain ⟨b4, off, hp4, hbl, hcell⟩ := h3 (dpsC_ne (by omega))
          obtain ⟨g0, g1, g2⟩ := dpsC_get v.deps k hlt
          have c1 : wr.cell? ⟨b4, off + k * 3 + 1, none⟩ = some (.int .i64 v.deps[k].2.1) := by rw [Nat.add_assoc]; exact hcell _ _ g1
          have c2 : wr.cell? ⟨b4, off + k * 3 + 2, none⟩ = some (.int .i64 v.deps[k].2.2) := by rw [Nat.add_assoc]; exact hcell _ _ g2
          clear hcell h3 g0 g1 g2
          have hbl4 : b4 < wr.heap.size := hbl
          rw [hp4] at BV rd
          rw [hp4]
          have HP4 := Lib.hid hp4
          clear hp4
          obtain ⟨q0, q1, q2, q3, q4, q5, q6, qf, ql⟩ := BV.seven
          go_wp2
          refine region_over (by kernel_rfl) (by kernel_rfl) ?_
          repeat (go_big_quiet_step (first | (go_at_call 13; exact quiet_over (bool_is hless (stampLess_impl _ _ _ _ _)))))
          refine wpQuiet_nil ?_
          intro w9 hb9
          have BV := BV.below hb9 BV.lt
          have G0 := below_after G0 hb9
          have rd := rd.below hb9
          have hbk := below_after hbk hb9
          clear hless
          have hneB := Nat.ne_of_lt BV.lt
          have hsk := hbk.size
          obtain ⟨BV0, BV1, BV2, BV3, BV4, BV5, BV6, BVf, BVl⟩ := BV.seven
          have BX := Blk.new w9 #[.int .i64 v.key, .int .i64 v.time, .int .i64 v.site, .int .i64 v.val, .int .i64 v.client, .int .i64 v.call, .slice (some ⟨b4, off, none⟩) v.deps.length c] 27
          have hbx := below_box w9 (.cells #[.int .i64 v.key, .int .i64 v.time, .int .i64 v.site, .int .i64 v.val, .int .i64 v.client, .int .i64 v.call, .slice (some ⟨b4, off, none⟩) v.deps.length c] 27)
          have G9 := below_after G0 hbx
          have hbk := below_after hbk hbx
          have BV := BV.below hbx BV.lt
          have rd := rd.below hbx
          obtain ⟨x0, x1, x2, x3, x4, x5, x6, xf, xl⟩ := BX.seven
          obtain ⟨y0, y1, y2, y3, y4, y5, y6, yf, yl⟩ := BV.seven
          obtain ⟨i0, hi, hz0, hz1, hz2⟩ := info_parts infoDep
          have BVp := BV
          have hby : Below (w9.alloc (.cells #[.int .i64 v.key, .int .i64 v.time, .int .i64 v.site, .int .i64 v.val, .int .i64 v.client, .int .i64 v.call, .slice (some ⟨b4, off, none⟩) v.deps.length c] 27)).heap.size (w9.alloc (.cells #[.int .i64 v.key, .int .i64 v.time, .int .i64 v.site, .int .i64 v.val, .int .i64 v.client, .int .i64 v.call, .slice (some ⟨b4, off, none⟩) v.deps.length c] 27)) ((w9.alloc (.cells #[.int .i64 v.key, .int .i64 v.time, .int .i64 v.site, .int .i64 v.val, .int .i64 v.client, .int .i64 v.call, .slice (some ⟨b4, off, none⟩) v.deps.length c] 27)).alloc (.cells #[] 32)).drew := (below_box (w9.alloc (.cells #[.int .i64 v.key, .int .i64 v.time, .int .i64 v.site, .int .i64 v.val, .int .i64 v.client, .int .i64 v.call, .slice (some ⟨b4, off, none⟩) v.deps.length c] 27)) (.cells #[] 32)).drew
          have hwx : (w9.alloc (.cells #[.int .i64 v.key, .int .i64 v.time, .int .i64 v.site, .int .i64 v.val, .int .i64 v.client, .int .i64 v.call, .slice (some ⟨b4, off, none⟩) v.deps.length c] 27)).heap.size = w9.heap.size + 1 := World.size_alloc _ _
          have own0 := own_below (World.ownsRow_made (base := w9.heap.size + 1) (size := 3) (e := 32) (w9.alloc (.cells #[.int .i64 v.key, .int .i64 v.time, .int .i64 v.site, .int .i64 v.val, .int .i64 v.client, .int .i64 v.call, .slice (some ⟨b4, off, none⟩) v.deps.length c] 27)) #[] 0 (by rw [hwx]; exact Nat.le_refl _) (by simp) (by simp)) ((Below.refl _ _).drew)
          rw [hwx] at own0
          have hc0 := rd.1
          have hcm := rd.2.1
          have hc1 : (k : Int) ≤ (c : Int) := by omega
          have hc2 : (k : Int) ≤ (v.deps.length : Int) := by omega
          have hc3 : (0 : Int) ≤ (k : Int) + 1 := by omega
          have hc4 : (k : Int) + 1 ≤ (v.deps.length : Int) := by omega
          have hc5 : (v.deps.length : Int) ≤ (c : Int) := by omega
          have hc6 : IntKind.i64.wrap ((k : Int) + 1) = (k : Int) + 1 := by rw [IntKind.wrap_i64]; omega
          have hl1 : (dpsC (v.deps.take k)).length = k * 3 := by rw [dpsC_len, List.length_take, Nat.min_eq_left hk]
          have hl2 : (dpsC (v.deps.drop (k + 1))).length = (v.deps.length - (k + 1)) * 3 := by rw [dpsC_len, List.length_drop]
          have hbs : w9.heap.size + 1 ≤ ((w9.alloc (.cells #[.int .i64 v.key, .int .i64 v.time, .int .i64 v.site, .int .i64 v.val, .int .i64 v.client, .int .i64 v.call, .slice (some ⟨b4, off, none⟩) v.deps.length c] 27)).alloc (.cells #[] 32)).drew.heap.size := hwx ▸ hby.size
          have R1 := reads_take (rd.below hby) k c hk (by omega) hcm
          have hxx := BX.lt
          go_wp2_with fail
          go_region_held3 (fun W => W.cell? ⟨w1.heap.size, 6, none⟩ = some (.slice (some ⟨b4, off, none⟩) v.deps.length c)) (first | (with_reducible exact BVp.seven.2.2.2.2.2.2.1) | (with_reducible exact (Blk.drew BVp).seven.2.2.2.2.2.2.1) | (with_reducible exact (Blk.drew (BVp.alloc _)).seven.2.2.2.2.2.2.1) | (with_reducible exact BV6.seven.2.2.2.2.2.2.1) | (with_reducible exact (BV6.setb hneB _).seven.2.2.2.2.2.2.1) | (with_reducible exact BV5.seven.2.2.2.2.2.2.1)) (first | (refine step_append_src rfl (.tmp 44) (.tmp 48) 25 rfl (w9.heap.size + 1) 32 i0 _ 3 24 Try.underlying25 hi hz0 hz1 hz2 rfl (by decide) _ _ _ rfl own0 (some ⟨b4, off, none⟩) k c (dpsC (v.deps.take k)) rfl hl1 R1 (dpsC_one _) (by unfold maxLen; omega) (by omega) hbs ?_; intro u1 w11 own1 hg1; have hb11 := below_app hby own0 hg1 (Nat.le_of_eq hwx) hbs; have BV5 := BVp.below hb11 BVp.lt; have BX5 := BX.below hb11 BX.lt; have R2 := reads_dropI (rd.below hb11) (k + 1) hlt; have hs11 : w9.heap.size + 1 ≤ w11.heap.size := hwx ▸ hb11.size; clear y0 y1 y2 y3 y4 y5 y6 yf yl; obtain ⟨y0, y1, y2, y3, y4, y5, y6, yf, yl⟩ := BV5.seven; obtain ⟨t0, t1, t2, t3, t4, t5, t6, tf, tl⟩ := BX5.seven) | (refine step_append_src rfl (.tmp 49) (.tmp 54) 25 rfl (w9.heap.size + 1) 32 i0 _ 3 24 Try.underlying25 hi hz0 hz1 hz2 rfl (by decide) _ _ _ rfl own1 (if c = k + 1 then some ⟨b4, off, none⟩ else some ⟨b4, off + (k + 1) * 3, none⟩) (v.deps.length - (k + 1)) (c - (k + 1)) (dpsC (v.deps.drop (k + 1))) rfl hl2 R2 (dpsC_one _) (by unfold maxLen; omega) (by omega) hs11 ?_; intro u2 w12 own2 hg2; have hb12 := below_app hb11 own1 hg2 (Nat.le_of_eq hwx) hs11; have BV6 := BVp.below hb12 BVp.lt; have BX6 := BX.below hb12 BX.lt; clear t0 t1 t2 t3 t4 t5 t6 tf tl; obtain ⟨t0, t1, t2, t3, t4, t5, t6, tf, tl⟩ := BX6.seven; have own3 : w12.ownsRow (w9.heap.size + 1) 32 3 u2 (lessV v k).deps.length (dpsC (lessV v k).deps) := (by have h9 : (lessV v k).deps.length = 0 + k + (v.deps.length - (k + 1)) := (by simp [lessV]; omega); rw [h9, show dpsC (lessV v k).deps = [] ++ dpsC (v.deps.take k) ++ dpsC (v.deps.drop (k + 1)) from (by rw [List.nil_append, ← dpsC_app]; rfl)]; exact own2); obtain ⟨pz, cz, rfl, rdz⟩ := Reads.of_owns own3))
          all_goals (
            generalize (if c = k + 1 then (some ⟨b4, off, none⟩ : Option Addr) else some ⟨b4, off + (k + 1) * 3, none⟩) = qa
            have BX7 := BX6.put6 (.slice pz (lessV v k).deps.length cz)
            have rd7 := Reads.own (own_set own3 (own_ne' own3 (b := w9.heap.size) (Nat.lt_succ_self _)) (o := 6) (.slice pz (lessV v k).deps.length cz))
            have hbk := below_setb (below_after hbk hb12) (b := w9.heap.size) (o := 6) hsk (.slice pz (lessV v k).deps.length cz)
            have hd9 : (lessV v k).deps.length ≤ 1048577 := by simp [lessV]; omega
            clear t0 t1 t2 t3 t4 t5 t6 tf tl x0 x1 x2 x3 x4 x5 x6 xf xl
            obtain ⟨t0, t1, t2, t3, t4, t5, t6, tf, tl⟩ := BX7.seven
            go_wp2_with fail
            all_goals (
              refine (bool_is (lessV_ok k HB.out) (VerOk_impl (lessV v k) pz cz _ rd7 hd9)).mono ?_
              rintro e w13 ⟨rfl, hb13⟩
              go_wp2
              go_roundw
              case rel => exact ⟨k + 1, by omega, by go_num, below_after hbk hb13⟩
              case measure => simp [intOf]; omega))
        · skip
          obtain ⟨BV0, BV1, BV2, BV3, BV4, BV5, BV6, BVf, BVl⟩ := BV.seven
          obtain rfl : k = v.deps.length := by omega
          go_wp2
          go_ret
          exact ⟨rfl, G0⟩

set_option maxRecDepth 100000 in
theorem lifted (os : Os) (started : os.Started) (H : Type) (enc : TypeId × Value → H) :
    ReturnsInHanded {} Try.checked os 3 .any (Rows.fnVerOkSpec.pre6 enc Try.prog Try.f3 Rows.fnVerOkRow.domain false) (Rows.fnVerOkSpec.post enc Try.prog Try.f3 false true false false) := by
  refine returnsInHanded_of_change (C := Try.checked) own started (by kernel_rfl) Try.func3
    (ChangeSpec.witness6 (enc := enc) (C := Try.checked) false ⟨#[], #[.slice none 0 0], []⟩ 8 (by kernel_rfl) (by kernel_rfl) (by kernel_rfl) (by kernel_rfl)) ?_
  intro W base args ds gs before hval0 hW hcnd _
  have hval : ∀ (j : Nat) t v, Try.f3.params[j]? = some t → args[j]? = some v → Value.okWide Try.prog W .any base t v := hval0
  have hW' := hW
  obtain ⟨p, q, hA0, hV, rfl, hfz, hnd⟩ := hW
  have hA : DataW.TrodAll enc Try.prog W 0 (fun _ => true) true Try.f3.params.toList args.toList ds p := hA0
  rw [Try.params3] at hA hval
  obtain ⟨v0, vs0, d0, ds0, p0, q0, hargs, rfl, rfl, h0, r0⟩ := trodAll_cons hA
  obtain ⟨rfl, rfl, rfl⟩ := trodAll_nil r0
  obtain rfl : args = #[v0] := by cases args; simp_all
  obtain ⟨rfl, rfl⟩ := trodVars_none hV
  have lt0 : ∀ x ∈ p0, x.block < W.heap.size := by obtain ⟨m, hm⟩ := h0; exact DataW.trod_lt m _ _ _ hm
  obtain ⟨a0, l0, k0, rfl, w0⟩ := bytes_of Try.underlying22 Try.underlying5 (by kernel_rfl) (hval 0 22 v0 rfl rfl) h0
  clear hA0 hval0
  refine (walk a0 l0 k0 W w0).mono fun e W' ⟨he, bel⟩ => ?_
  subst he
  exact ⟨_, rfl, _, _, _, [], _, [], hW', trodAll_mk1 (shut_bool Try.underlying4 _), (trodAll_cons_mk (Below.trod laidOut (by kernel_rfl) (of_decide_eq_true (by kernel_rfl)) h0 bel lt0) trodAll_mk0), rfl, bel.frame _, fun h => by cases h⟩

theorem over_row : Rows.fnVerOkRow.holds Try.pinned (OpenSpec.ofChange Rows.fnVerOkSpec) :=
  OpenClaim.holds_of_wide 3 Try.f3 rfl rfl rfl rfl rfl rfl rfl ⟨rfl, rfl, rfl, rfl, rfl⟩ rfl rfl rfl rfl rfl (by kernel_rfl) Try.func3 (by kernel_rfl)
    (of_decide_eq_true (by kernel_rfl)) (by unfold Func.isWrapper; first | (rw [if_pos (by decide +kernel)]; kernel_rfl) | (rw [if_neg (by decide +kernel)]; exact ⟨rfl, rfl⟩))
    (fun os started H enc _ => lifted os started H enc)

/-- The statement. -/
theorem proved : Rows.FnVerOkSaid := over_row
end Go.Proofs.Ythciikogogkfcaa.fnVerOk
