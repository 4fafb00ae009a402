/- The draw of a word. -/
import Derived.Test.YthciikogogkfcaaDrawW0
namespace Go.Proofs.Ythciikogogkfcaa
open Go.RowKit Go.Deep
set_option linter.unusedVariables false

structure OwnW (N1 : Nat) (w : World) (x : Mw) : Prop where
  dp : w.ownsRow N1 32 3 (.slice x.da x.deps.length x.dc) x.deps.length (dpsC x.deps)
  vr : OwnVers N1 w (.slice x.va x.vers.length x.vc) x.vers
  wt : OwnVers N1 w (.slice x.wa x.waits.length x.wc) x.waits
  ow : w.ownsRow N1 32 3 (.slice x.oa x.owes.length x.oc) x.owes.length (dpsC x.owes)
theorem OwnW.grown {N1 g : Nat} {w w' : World} {x : Mw} (h : OwnW N1 w x) (hg : w.grownBy w' (some g)) (hn : g < N1) : OwnW N1 w' x := ⟨own_grown h.dp hg hn, h.vr.grown hg hn, h.wt.grown hg hn, own_grown h.ow hg hn⟩
theorem OwnW.alloc {N1 : Nat} {w : World} {x : Mw} (h : OwnW N1 w x) (o : Obj) : OwnW N1 (w.alloc o) x := ⟨own_below h.dp (below_box w o), h.vr.below (below_box w o), h.wt.below (below_box w o), own_below h.ow (below_box w o)⟩
theorem OwnW.set {N1 b o : Nat} {w : World} {x : Mw} (h : OwnW N1 w x) (hb : b < N1) (u : Value) : OwnW N1 (w.setCell ⟨b, o, none⟩ u) x :=
  ⟨own_set h.dp (own_ne' h.dp hb) u, OwnVers.setn h.vr hb u, OwnVers.setn h.wt hb u, own_set h.ow (own_ne' h.ow hb) u⟩
theorem OwnW.base {N1 M : Nat} {w : World} {x : Mw} (h : OwnW N1 w x) (hM : M ≤ N1) : OwnW M w x := ⟨own_base h.dp hM, h.vr.base hM, h.wt.base hM, own_base h.ow hM⟩
theorem OwnW.in_ {N1 : Nat} {w : World} {x : Mw} (h : OwnW N1 w x) : WordIn w x := ⟨Reads.own h.dp, h.vr.vers, h.wt.vers, Reads.own h.ow⟩
/-- A word under way, in block B. -/
structure WSt (g N q B : Nat) (W0 : World) (x : Mw) (w : World) : Prop where
  blk : Blk w B #[.int .i64 x.kind, .int .i64 x.frm, .int .i64 x.to, .int .i64 x.call, .int .i64 x.key, .int .i64 x.time, .int .i64 x.site, .int .i64 x.val, .bool x.yes, .slice x.da x.deps.length x.dc, .int .i64 x.slot, .int .i64 x.epoch, .slice x.va x.vers.length x.vc, .slice x.wa x.waits.length x.wc, .slice x.oa x.owes.length x.oc] 48
  own : OwnW (B + 1) w x
  few : FewW x
  f0 : -100 ≤ x.frm ∧ x.frm ≤ 100
  t0 : -100 ≤ x.to ∧ x.to ≤ 100
  rd : ∃ q', Rd N w g q' ∧ q' ≤ q
  gr : W0.grownBy w (some g)
theorem WSt.step {g N q B n : Nat} {W0 w w' : World} {x : Mw} (h : WSt g N q B W0 x w) (hg : w.grownBy w' (some g)) (hgB : g < B) (hr : ∃ q', Rd N w' g q' ∧ q' ≤ n) : WSt g N n B W0 x w' :=
  ⟨h.blk.grown hg (by omega), h.own.grown hg (by omega), h.few, h.f0, h.t0, hr, grown_trans' h.gr hg⟩
theorem WSt.more {g N q n B : Nat} {W0 w : World} {x : Mw} (h : WSt g N q B W0 x w) (hn : q ≤ n) : WSt g N n B W0 x w := ⟨h.blk, h.own, h.few, h.f0, h.t0, by obtain ⟨q', h1, h2⟩ := h.rd; exact ⟨q', h1, by omega⟩, h.gr⟩
def DrawnWord (w : World) (g : Nat) (e : Ending) (w' : World) : Prop := ∃ x : Mw, e = .returned (.agg #[.int .i64 x.kind, .int .i64 x.frm, .int .i64 x.to, .int .i64 x.call, .int .i64 x.key, .int .i64 x.time, .int .i64 x.site, .int .i64 x.val, .bool x.yes, .slice x.da x.deps.length x.dc, .int .i64 x.slot, .int .i64 x.epoch, .slice x.va x.vers.length x.vc, .slice x.wa x.waits.length x.wc, .slice x.oa x.owes.length x.oc]) ∧ OwnW w.heap.size w' x ∧ FewW x ∧ (-100 ≤ x.frm ∧ x.frm ≤ 100) ∧ (-100 ≤ x.to ∧ x.to ≤ 100) ∧ w.grownBy w' (some g)
theorem few_nil : Few ([] : List Mv) := ⟨by simp, fun m hm => by simp at hm⟩
set_option maxRecDepth 100000 in
set_option maxHeartbeats 8000000 in
theorem l72Word_any (N g q : Nat) (w : World) (hr : Rd N w g q) (hq : q ≤ 500000) :
    Calls Try.prog 64 #[.pointer (some ⟨g, 0, none⟩)] w (DrawnWord w g) := by
  have hNg := hr.lt
  have hNw := hr.le
  have ep : ∀ args w, (callFunc 108 args).run Try.prog w = .ok (.enter 108 args) w := enters_of Try.func108 (by kernel_rfl) rfl
  go_enter Try.func64, Try.ntmps64
  go_upto_region 1 with fail
  have hr0 := hr.alloc (.cells #[.int .i64 0, .int .i64 0, .int .i64 0, .int .i64 0, .int .i64 0, .int .i64 0, .int .i64 0, .int .i64 0, .bool false, .slice none 0 0, .int .i64 0, .int .i64 0, .slice none 0 0, .slice none 0 0, .slice none 0 0] 48)
  obtain ⟨W0, hW0⟩ : ∃ W0, W0 = w.alloc (.cells #[.int .i64 0, .int .i64 0, .int .i64 0, .int .i64 0, .int .i64 0, .int .i64 0, .int .i64 0, .int .i64 0, .bool false, .slice none 0 0, .int .i64 0, .int .i64 0, .slice none 0 0, .slice none 0 0, .slice none 0 0] 48) := ⟨_, rfl⟩
  have hW0s : W0.heap.size = w.heap.size + 1 := by rw [hW0, World.size_alloc]
  have hW0b : Blk W0 w.heap.size #[.int .i64 0, .int .i64 0, .int .i64 0, .int .i64 0, .int .i64 0, .int .i64 0, .int .i64 0, .int .i64 0, .bool false, .slice none 0 0, .int .i64 0, .int .i64 0, .slice none 0 0, .slice none 0 0, .slice none 0 0] 48 := by rw [hW0]; exact Blk.new _ _ _
  have hW0g : w.grownBy W0 (some g) := by rw [hW0]; exact grown_of_below (below_box _ _) _
  rw [← hW0] at hr0 ⊢
  clear hW0
  go_cut [3] from 4 to 30 (fun s3 wx => ∃ (B : Nat) (x : Mw), s3 = .pointer (some ⟨B, 0, none⟩) ∧ W0.heap.size ≤ B ∧ WSt g N (q + 29) B W0 x wx)
  case first =>
    rename_i J K2 hJ hK2
    refine wp_region_W (N0 := W0.heap.size) (by kernel_rfl) rfl (by kernel_rfl) (by kernel_rfl) (by simp) hr0 (by omega) ?_ ?_
    · intro i hi
      have hc : i = 0 ∨ i = 1 ∨ i = 2 ∨ i = 3 ∨ i = 4 ∨ i = 5 ∨ i = 6 ∨ i = 7 ∨ i = 8 ∨ i = 9 ∨ i = 10 ∨ i = 11 ∨ i = 12 ∨ i = 13 ∨ i = 14 ∨ i = 15 ∨ i = 16 ∨ i = 17 ∨ i = 18 ∨ i = 19 ∨ i = 20 ∨ i = 21 ∨ i = 22 ∨ i = 23 ∨ i = 24 ∨ i = 25 ∨ i = 26 ∨ i = 27 := by omega
      intro k a w' hdep hs0 hqk1 hgw K hK
      have hqk : ∃ q', Rd N w' g q' ∧ q' + k ≤ q + 29 := by obtain ⟨q1, h1, h2⟩ := hqk1; exact ⟨q1, h1, by omega⟩
      have hq := hqk1
      rcases hc with rfl | rfl | rfl | rfl | rfl | rfl | rfl | rfl | rfl | rfl | rfl | rfl | rfl | rfl | rfl | rfl | rfl | rfl | rfl | rfl | rfl | rfl | rfl | rfl | rfl | rfl | rfl | rfl
      · refine wpOp_plain rfl rfl ?_
        have e0 : a.tmps.getD 0 undef = .pointer (some ⟨g, 0, none⟩) := hs0 _ rfl
        exact hK (a.tmps.getD 0 undef) w' (only_refl _ _) hqk e0
      · refine wpOp_plain rfl rfl ?_
        have d0 := hdep 0 (by omega) (by kernel_rfl)
        have e0 : a.tmps.getD 4 undef = .pointer (some ⟨g, 0, none⟩) := d0
        obtain ⟨q1, hr1, hq1⟩ := hq
        refine op_enter (g := 108) (args := #[.pointer (some ⟨g, 0, none⟩), .int .i64 10]) (d := 5) ?_ rfl ?_
        · simp [execOp, Act.eval, resolve, invoke, go_sem, e0, ep]
        · refine (pick_any 10 N g q1 w' hr1 (by omega) (by omega) (by omega)).mono ?_
          rintro e w2 ⟨x, rfl, hx0, hx1, hr2, hg2⟩
          exact ⟨_, rfl, hK _ w2 hg2 ⟨q1 + 1, hr2, by omega⟩ ⟨x, rfl, hx0, by omega⟩⟩
      · refine wpOp_plain rfl rfl ?_
        have d1 := hdep 1 (by omega) (by kernel_rfl)
        obtain ⟨x, hx, hx0, hx1⟩ : IntIn 89 (a.tmps.getD 5 undef) := d1
        refine op_value (v := .int .i64 (1 + x)) (w' := w') (d := 6) ?_ rfl ?_
        · simp [execOp, Act.eval, go_sem, hx]
          rw [IntKind.wrap_i64]
          omega
        · exact hK _ _ (only_refl _ _) hqk ⟨1 + x, rfl, by omega, by omega⟩
      · refine wpOp_plain rfl rfl ?_
        refine op_value (v := .slice (some ⟨w'.heap.size, 0, none⟩) 6 6) (w' := w'.alloc (.cells #[.int .i64 0, .int .i64 1, .int .i64 2, .int .i64 3, .int .i64 10, .int .i64 11] 3)) (d := 7) ?_ rfl ?_
        · simp [execOp, Act.eval, go_sem]
        · exact hK _ _ (grown_of_below (below_box _ _) _) (by obtain ⟨q1, h1, h2⟩ := hqk; exact ⟨q1, h1.alloc _, h2⟩) ⟨w'.heap.size, rfl, hgw.size, Blk.new _ _ _⟩
      · refine wpOp_plain rfl rfl ?_
        have e0 : a.tmps.getD 0 undef = .pointer (some ⟨g, 0, none⟩) := hs0 _ rfl
        exact hK (a.tmps.getD 0 undef) w' (only_refl _ _) hqk e0
      · refine wpOp_plain rfl rfl ?_
        have d4 := hdep 4 (by omega) (by kernel_rfl)
        have e0 : a.tmps.getD 8 undef = .pointer (some ⟨g, 0, none⟩) := d4
        obtain ⟨q1, hr1, hq1⟩ := hq
        refine op_enter (g := 108) (args := #[.pointer (some ⟨g, 0, none⟩), .int .i64 6]) (d := 9) ?_ rfl ?_
        · simp [execOp, Act.eval, resolve, invoke, go_sem, e0, ep]
        · refine (pick_any 6 N g q1 w' hr1 (by omega) (by omega) (by omega)).mono ?_
          rintro e w2 ⟨x, rfl, hx0, hx1, hr2, hg2⟩
          exact ⟨_, rfl, hK _ w2 hg2 ⟨q1 + 1, hr2, by omega⟩ ⟨x, rfl, hx0, by omega⟩⟩
      · refine wpOp_plain rfl rfl ?_
        have d3 := hdep 3 (by omega) (by kernel_rfl)
        have d5 := hdep 5 (by omega) (by kernel_rfl)
        obtain ⟨B, hB, hBn, hBk⟩ : SlIn _ (a.tmps.getD 7 undef) w' := d3
        obtain ⟨x, hx, hx0, hx1⟩ : IntIn 5 (a.tmps.getD 9 undef) := d5
        obtain ⟨j, rfl⟩ := Int.eq_ofNat_of_zero_le hx0
        have hj : j < 6 := by omega
        have hji : (j : Int) < 6 := by omega
        refine op_value (v := .pointer (some ⟨B, j, none⟩)) (w' := w') (d := 10) ?_ rfl ?_
        · simp [execOp, Act.eval, go_sem, hx, hB, hx0, hji]
        · exact hK _ _ (only_refl _ _) hqk ⟨B, j, rfl, hBn, hj, hBk⟩
      · refine wpOp_plain rfl rfl ?_
        have d6 := hdep 6 (by omega) (by kernel_rfl)
        obtain ⟨B, j, hB, hBn, hj, hBk⟩ : PtIn _ (a.tmps.getD 10 undef) w' := d6
        obtain ⟨x, hx, hx0, hx1⟩ : ∃ x : Int, w'.cell? ⟨B, j, none⟩ = some (.int .i64 x) ∧ 0 ≤ x ∧ x ≤ 11 := by
          have hjc : j = 0 ∨ j = 1 ∨ j = 2 ∨ j = 3 ∨ j = 4 ∨ j = 5 := by omega
          rcases hjc with rfl | rfl | rfl | rfl | rfl | rfl
          · exact ⟨0, hBk.cell 0 rfl, by omega, by omega⟩
          · exact ⟨1, hBk.cell 1 rfl, by omega, by omega⟩
          · exact ⟨2, hBk.cell 2 rfl, by omega, by omega⟩
          · exact ⟨3, hBk.cell 3 rfl, by omega, by omega⟩
          · exact ⟨10, hBk.cell 4 rfl, by omega, by omega⟩
          · exact ⟨11, hBk.cell 5 rfl, by omega, by omega⟩
        refine op_value (v := .int .i64 x) (w' := w') (d := 11) ?_ rfl ?_
        · simp [execOp, Act.eval, go_sem, hB, hx]
        · exact hK _ _ (only_refl _ _) hqk ⟨x, rfl, hx0, by omega⟩
      · refine wpOp_plain rfl rfl ?_
        refine op_value (v := .slice (some ⟨w'.heap.size, 0, none⟩) 6 6) (w' := w'.alloc (.cells #[.int .i64 0, .int .i64 1, .int .i64 2, .int .i64 3, .int .i64 10, .int .i64 11] 3)) (d := 12) ?_ rfl ?_
        · simp [execOp, Act.eval, go_sem]
        · exact hK _ _ (grown_of_below (below_box _ _) _) (by obtain ⟨q1, h1, h2⟩ := hqk; exact ⟨q1, h1.alloc _, h2⟩) ⟨w'.heap.size, rfl, hgw.size, Blk.new _ _ _⟩
      · refine wpOp_plain rfl rfl ?_
        have e0 : a.tmps.getD 0 undef = .pointer (some ⟨g, 0, none⟩) := hs0 _ rfl
        exact hK (a.tmps.getD 0 undef) w' (only_refl _ _) hqk e0
      · refine wpOp_plain rfl rfl ?_
        have d9 := hdep 9 (by omega) (by kernel_rfl)
        have e0 : a.tmps.getD 13 undef = .pointer (some ⟨g, 0, none⟩) := d9
        obtain ⟨q1, hr1, hq1⟩ := hq
        refine op_enter (g := 108) (args := #[.pointer (some ⟨g, 0, none⟩), .int .i64 6]) (d := 14) ?_ rfl ?_
        · simp [execOp, Act.eval, resolve, invoke, go_sem, e0, ep]
        · refine (pick_any 6 N g q1 w' hr1 (by omega) (by omega) (by omega)).mono ?_
          rintro e w2 ⟨x, rfl, hx0, hx1, hr2, hg2⟩
          exact ⟨_, rfl, hK _ w2 hg2 ⟨q1 + 1, hr2, by omega⟩ ⟨x, rfl, hx0, by omega⟩⟩
      · refine wpOp_plain rfl rfl ?_
        have d8 := hdep 8 (by omega) (by kernel_rfl)
        have d10 := hdep 10 (by omega) (by kernel_rfl)
        obtain ⟨B, hB, hBn, hBk⟩ : SlIn _ (a.tmps.getD 12 undef) w' := d8
        obtain ⟨x, hx, hx0, hx1⟩ : IntIn 5 (a.tmps.getD 14 undef) := d10
        obtain ⟨j, rfl⟩ := Int.eq_ofNat_of_zero_le hx0
        have hj : j < 6 := by omega
        have hji : (j : Int) < 6 := by omega
        refine op_value (v := .pointer (some ⟨B, j, none⟩)) (w' := w') (d := 15) ?_ rfl ?_
        · simp [execOp, Act.eval, go_sem, hx, hB, hx0, hji]
        · exact hK _ _ (only_refl _ _) hqk ⟨B, j, rfl, hBn, hj, hBk⟩
      · refine wpOp_plain rfl rfl ?_
        have d11 := hdep 11 (by omega) (by kernel_rfl)
        obtain ⟨B, j, hB, hBn, hj, hBk⟩ : PtIn _ (a.tmps.getD 15 undef) w' := d11
        obtain ⟨x, hx, hx0, hx1⟩ : ∃ x : Int, w'.cell? ⟨B, j, none⟩ = some (.int .i64 x) ∧ 0 ≤ x ∧ x ≤ 11 := by
          have hjc : j = 0 ∨ j = 1 ∨ j = 2 ∨ j = 3 ∨ j = 4 ∨ j = 5 := by omega
          rcases hjc with rfl | rfl | rfl | rfl | rfl | rfl
          · exact ⟨0, hBk.cell 0 rfl, by omega, by omega⟩
          · exact ⟨1, hBk.cell 1 rfl, by omega, by omega⟩
          · exact ⟨2, hBk.cell 2 rfl, by omega, by omega⟩
          · exact ⟨3, hBk.cell 3 rfl, by omega, by omega⟩
          · exact ⟨10, hBk.cell 4 rfl, by omega, by omega⟩
          · exact ⟨11, hBk.cell 5 rfl, by omega, by omega⟩
        refine op_value (v := .int .i64 x) (w' := w') (d := 16) ?_ rfl ?_
        · simp [execOp, Act.eval, go_sem, hB, hx]
        · exact hK _ _ (only_refl _ _) hqk ⟨x, rfl, hx0, by omega⟩
      · refine wpOp_plain rfl rfl ?_
        have e0 : a.tmps.getD 0 undef = .pointer (some ⟨g, 0, none⟩) := hs0 _ rfl
        exact hK (a.tmps.getD 0 undef) w' (only_refl _ _) hqk e0
      · refine wpOp_plain rfl rfl ?_
        have d13 := hdep 13 (by omega) (by kernel_rfl)
        have e0 : a.tmps.getD 17 undef = .pointer (some ⟨g, 0, none⟩) := d13
        obtain ⟨q1, hr1, hq1⟩ := hq
        refine op_enter (g := 108) (args := #[.pointer (some ⟨g, 0, none⟩), .int .i64 6]) (d := 18) ?_ rfl ?_
        · simp [execOp, Act.eval, resolve, invoke, go_sem, e0, ep]
        · refine (pick_any 6 N g q1 w' hr1 (by omega) (by omega) (by omega)).mono ?_
          rintro e w2 ⟨x, rfl, hx0, hx1, hr2, hg2⟩
          exact ⟨_, rfl, hK _ w2 hg2 ⟨q1 + 1, hr2, by omega⟩ ⟨x, rfl, hx0, by omega⟩⟩
      · refine wpOp_plain rfl rfl ?_
        have e0 : a.tmps.getD 0 undef = .pointer (some ⟨g, 0, none⟩) := hs0 _ rfl
        exact hK (a.tmps.getD 0 undef) w' (only_refl _ _) hqk e0
      · refine wpOp_plain rfl rfl ?_
        have d15 := hdep 15 (by omega) (by kernel_rfl)
        have e0 : a.tmps.getD 19 undef = .pointer (some ⟨g, 0, none⟩) := d15
        obtain ⟨q1, hr1, hq1⟩ := hq
        refine op_enter (g := 108) (args := #[.pointer (some ⟨g, 0, none⟩), .int .i64 6]) (d := 20) ?_ rfl ?_
        · simp [execOp, Act.eval, resolve, invoke, go_sem, e0, ep]
        · refine (pick_any 6 N g q1 w' hr1 (by omega) (by omega) (by omega)).mono ?_
          rintro e w2 ⟨x, rfl, hx0, hx1, hr2, hg2⟩
          exact ⟨_, rfl, hK _ w2 hg2 ⟨q1 + 1, hr2, by omega⟩ ⟨x, rfl, hx0, by omega⟩⟩
      · refine wpOp_plain rfl rfl ?_
        have e0 : a.tmps.getD 0 undef = .pointer (some ⟨g, 0, none⟩) := hs0 _ rfl
        exact hK (a.tmps.getD 0 undef) w' (only_refl _ _) hqk e0
      · refine wpOp_plain rfl rfl ?_
        have d17 := hdep 17 (by omega) (by kernel_rfl)
        have e0 : a.tmps.getD 21 undef = .pointer (some ⟨g, 0, none⟩) := d17
        obtain ⟨q1, hr1, hq1⟩ := hq
        refine op_enter (g := 108) (args := #[.pointer (some ⟨g, 0, none⟩), .int .i64 90]) (d := 22) ?_ rfl ?_
        · simp [execOp, Act.eval, resolve, invoke, go_sem, e0, ep]
        · refine (pick_any 90 N g q1 w' hr1 (by omega) (by omega) (by omega)).mono ?_
          rintro e w2 ⟨x, rfl, hx0, hx1, hr2, hg2⟩
          exact ⟨_, rfl, hK _ w2 hg2 ⟨q1 + 1, hr2, by omega⟩ ⟨x, rfl, hx0, by omega⟩⟩
      · refine wpOp_plain rfl rfl ?_
        have e0 : a.tmps.getD 0 undef = .pointer (some ⟨g, 0, none⟩) := hs0 _ rfl
        exact hK (a.tmps.getD 0 undef) w' (only_refl _ _) hqk e0
      · refine wpOp_plain rfl rfl ?_
        have d19 := hdep 19 (by omega) (by kernel_rfl)
        have e0 : a.tmps.getD 23 undef = .pointer (some ⟨g, 0, none⟩) := d19
        obtain ⟨q1, hr1, hq1⟩ := hq
        refine op_enter (g := 108) (args := #[.pointer (some ⟨g, 0, none⟩), .int .i64 2]) (d := 24) ?_ rfl ?_
        · simp [execOp, Act.eval, resolve, invoke, go_sem, e0, ep]
        · refine (pick_any 2 N g q1 w' hr1 (by omega) (by omega) (by omega)).mono ?_
          rintro e w2 ⟨x, rfl, hx0, hx1, hr2, hg2⟩
          exact ⟨_, rfl, hK _ w2 hg2 ⟨q1 + 1, hr2, by omega⟩ ⟨x, rfl, hx0, by omega⟩⟩
      · refine wpOp_plain rfl rfl ?_
        have d20 := hdep 20 (by omega) (by kernel_rfl)
        obtain ⟨x, hx, hx0, hx1⟩ : IntIn 89 (a.tmps.getD 24 undef) := d20
        refine op_value (v := .bool (x == 0)) (w' := w') (d := 25) ?_ rfl ?_
        · simp [execOp, Act.eval, go_sem, hx]
        · exact hK _ _ (only_refl _ _) hqk ⟨_, rfl⟩
      · refine wpOp_plain rfl rfl ?_
        have e0 : a.tmps.getD 0 undef = .pointer (some ⟨g, 0, none⟩) := hs0 _ rfl
        exact hK (a.tmps.getD 0 undef) w' (only_refl _ _) hqk e0
      · refine wpOp_plain rfl rfl ?_
        have d22 := hdep 22 (by omega) (by kernel_rfl)
        have e0 : a.tmps.getD 26 undef = .pointer (some ⟨g, 0, none⟩) := d22
        obtain ⟨q1, hr1, hq1⟩ := hq
        refine op_enter (g := 108) (args := #[.pointer (some ⟨g, 0, none⟩), .int .i64 3]) (d := 27) ?_ rfl ?_
        · simp [execOp, Act.eval, resolve, invoke, go_sem, e0, ep]
        · refine (pick_any 3 N g q1 w' hr1 (by omega) (by omega) (by omega)).mono ?_
          rintro e w2 ⟨x, rfl, hx0, hx1, hr2, hg2⟩
          exact ⟨_, rfl, hK _ w2 hg2 ⟨q1 + 1, hr2, by omega⟩ ⟨x, rfl, hx0, by omega⟩⟩
      · refine wpOp_plain rfl rfl ?_
        have e0 : a.tmps.getD 0 undef = .pointer (some ⟨g, 0, none⟩) := hs0 _ rfl
        exact hK (a.tmps.getD 0 undef) w' (only_refl _ _) hqk e0
      · refine wpOp_plain rfl rfl ?_
        have d24 := hdep 24 (by omega) (by kernel_rfl)
        have e0 : a.tmps.getD 28 undef = .pointer (some ⟨g, 0, none⟩) := d24
        obtain ⟨q1, hr1, hq1⟩ := hq
        refine op_enter (g := 108) (args := #[.pointer (some ⟨g, 0, none⟩), .int .i64 5]) (d := 29) ?_ rfl ?_
        · simp [execOp, Act.eval, resolve, invoke, go_sem, e0, ep]
        · refine (pick_any 5 N g q1 w' hr1 (by omega) (by omega) (by omega)).mono ?_
          rintro e w2 ⟨x, rfl, hx0, hx1, hr2, hg2⟩
          exact ⟨_, rfl, hK _ w2 hg2 ⟨q1 + 1, hr2, by omega⟩ ⟨x, rfl, hx0, by omega⟩⟩
      · refine wpOp_plain rfl rfl ?_
        have d2 := hdep 2 (by omega) (by kernel_rfl)
        have d7 := hdep 7 (by omega) (by kernel_rfl)
        have d12 := hdep 12 (by omega) (by kernel_rfl)
        have d14 := hdep 14 (by omega) (by kernel_rfl)
        have d16 := hdep 16 (by omega) (by kernel_rfl)
        have d18 := hdep 18 (by omega) (by kernel_rfl)
        have d21 := hdep 21 (by omega) (by kernel_rfl)
        have d23 := hdep 23 (by omega) (by kernel_rfl)
        have d25 := hdep 25 (by omega) (by kernel_rfl)
        obtain ⟨kind, hkind, hkind0, hkind1⟩ : IntIn 90 (a.tmps.getD 6 undef) := d2
        obtain ⟨frm, hfrm, hfrm0, hfrm1⟩ : IntIn 89 (a.tmps.getD 11 undef) := d7
        obtain ⟨too, htoo, htoo0, htoo1⟩ : IntIn 89 (a.tmps.getD 16 undef) := d12
        obtain ⟨call, hcall, hcall0, hcall1⟩ : IntIn 89 (a.tmps.getD 18 undef) := d14
        obtain ⟨key, hkey, hkey0, hkey1⟩ : IntIn 89 (a.tmps.getD 20 undef) := d16
        obtain ⟨val, hval, hval0, hval1⟩ : IntIn 89 (a.tmps.getD 22 undef) := d18
        obtain ⟨slt, hslt, hslt0, hslt1⟩ : IntIn 89 (a.tmps.getD 27 undef) := d23
        obtain ⟨epo, hepo, hepo0, hepo1⟩ : IntIn 89 (a.tmps.getD 29 undef) := d25
        obtain ⟨yes, hyes⟩ : ∃ b, a.tmps.getD 25 undef = .bool b := d21
        refine op_value (v := .agg #[.int .i64 kind, .int .i64 frm, .int .i64 too, .int .i64 call, .int .i64 key, .int .i64 0, .int .i64 0, .int .i64 val, .bool yes, .slice none 0 0, .int .i64 slt, .int .i64 epo, .slice none 0 0, .slice none 0 0, .slice none 0 0]) (w' := w') (d := 30) ?_ rfl ?_
        · simp only [Array.getD_eq_getD_getElem?] at hkind hfrm htoo hcall hkey hval hslt hepo hyes
          simp [execOp, Act.eval, go_sem, hkind, hfrm, htoo, hcall, hkey, hval, hslt, hepo, hyes]
        · exact hK _ _ (only_refl _ _) hqk ⟨kind, frm, too, call, key, val, yes, slt, epo, rfl, hfrm0, by omega, htoo0, by omega⟩
      · refine wpOp_plain rfl rfl ?_
        refine op_value (v := .pointer (some ⟨w'.heap.size, 0, none⟩)) (w' := w'.alloc (.cells #[.int .i64 0, .int .i64 0, .int .i64 0, .int .i64 0, .int .i64 0, .int .i64 0, .int .i64 0, .int .i64 0, .bool false, .slice none 0 0, .int .i64 0, .int .i64 0, .slice none 0 0, .slice none 0 0, .slice none 0 0] 48)) (d := 3) ?_ rfl ?_
        · simp [execOp, go_sem]
        · exact hK _ _ (grown_of_below (below_box _ _) _) (by obtain ⟨q1, h1, h2⟩ := hqk; exact ⟨q1, h1.alloc _, h2⟩) ⟨w'.heap.size, rfl, hgw.size, Blk.new _ _ _⟩
    · intro a w' hF hq1 hgw hall
      obtain ⟨B, hB, hBn, hBk⟩ : AlIn W0.heap.size (a.tmps.getD 3 undef) w' := hall 27 (by omega)
      obtain ⟨kind, frm, too, call, key, val, yes, slt, epo, hv, hf0, hf1, ht0, ht1⟩ : WdIn (a.tmps.getD 30 undef) := hall 26 (by omega)
      have hB0 := hB
      simp only [Array.getD_eq_getD_getElem?] at hB hv
      obtain ⟨z0, z1, z2, z3, z4, z5, z6, z7, z8, z9, z10, z11, z12, z13, z14, zf, zl⟩ := hBk.word
      have hr1 : ∃ q', Rd N (((((((((((((((w'.setCell ⟨B, 0, none⟩ (.int .i64 kind)).setCell ⟨B, 1, none⟩ (.int .i64 frm)).setCell ⟨B, 2, none⟩ (.int .i64 too)).setCell ⟨B, 3, none⟩ (.int .i64 call)).setCell ⟨B, 4, none⟩ (.int .i64 key)).setCell ⟨B, 5, none⟩ (.int .i64 0)).setCell ⟨B, 6, none⟩ (.int .i64 0)).setCell ⟨B, 7, none⟩ (.int .i64 val)).setCell ⟨B, 8, none⟩ (.bool yes)).setCell ⟨B, 9, none⟩ (.slice none 0 0)).setCell ⟨B, 10, none⟩ (.int .i64 slt)).setCell ⟨B, 11, none⟩ (.int .i64 epo)).setCell ⟨B, 12, none⟩ (.slice none 0 0)).setCell ⟨B, 13, none⟩ (.slice none 0 0)).setCell ⟨B, 14, none⟩ (.slice none 0 0)) g q' ∧ q' ≤ q + 29 := by
        obtain ⟨q1, h1, h2⟩ := hq1
        exact ⟨q1, (Rd.setb (Rd.setb (Rd.setb (Rd.setb (Rd.setb (Rd.setb (Rd.setb (Rd.setb (Rd.setb (Rd.setb (Rd.setb (Rd.setb (Rd.setb (Rd.setb (Rd.setb h1 (by omega) _) (by omega) _) (by omega) _) (by omega) _) (by omega) _) (by omega) _) (by omega) _) (by omega) _) (by omega) _) (by omega) _) (by omega) _) (by omega) _) (by omega) _) (by omega) _) (by omega) _), h2⟩
      have hg1 : W0.grownBy (((((((((((((((w'.setCell ⟨B, 0, none⟩ (.int .i64 kind)).setCell ⟨B, 1, none⟩ (.int .i64 frm)).setCell ⟨B, 2, none⟩ (.int .i64 too)).setCell ⟨B, 3, none⟩ (.int .i64 call)).setCell ⟨B, 4, none⟩ (.int .i64 key)).setCell ⟨B, 5, none⟩ (.int .i64 0)).setCell ⟨B, 6, none⟩ (.int .i64 0)).setCell ⟨B, 7, none⟩ (.int .i64 val)).setCell ⟨B, 8, none⟩ (.bool yes)).setCell ⟨B, 9, none⟩ (.slice none 0 0)).setCell ⟨B, 10, none⟩ (.int .i64 slt)).setCell ⟨B, 11, none⟩ (.int .i64 epo)).setCell ⟨B, 12, none⟩ (.slice none 0 0)).setCell ⟨B, 13, none⟩ (.slice none 0 0)).setCell ⟨B, 14, none⟩ (.slice none 0 0)) (some g) := (only_setb (only_setb (only_setb (only_setb (only_setb (only_setb (only_setb (only_setb (only_setb (only_setb (only_setb (only_setb (only_setb (only_setb (only_setb hgw (by omega) _) (by omega) _) (by omega) _) (by omega) _) (by omega) _) (by omega) _) (by omega) _) (by omega) _) (by omega) _) (by omega) _) (by omega) _) (by omega) _) (by omega) _) (by omega) _) (by omega) _)
      have hb1 : Blk (((((((((((((((w'.setCell ⟨B, 0, none⟩ (.int .i64 kind)).setCell ⟨B, 1, none⟩ (.int .i64 frm)).setCell ⟨B, 2, none⟩ (.int .i64 too)).setCell ⟨B, 3, none⟩ (.int .i64 call)).setCell ⟨B, 4, none⟩ (.int .i64 key)).setCell ⟨B, 5, none⟩ (.int .i64 0)).setCell ⟨B, 6, none⟩ (.int .i64 0)).setCell ⟨B, 7, none⟩ (.int .i64 val)).setCell ⟨B, 8, none⟩ (.bool yes)).setCell ⟨B, 9, none⟩ (.slice none 0 0)).setCell ⟨B, 10, none⟩ (.int .i64 slt)).setCell ⟨B, 11, none⟩ (.int .i64 epo)).setCell ⟨B, 12, none⟩ (.slice none 0 0)).setCell ⟨B, 13, none⟩ (.slice none 0 0)).setCell ⟨B, 14, none⟩ (.slice none 0 0)) B #[.int .i64 kind, .int .i64 frm, .int .i64 too, .int .i64 call, .int .i64 key, .int .i64 0, .int .i64 0, .int .i64 val, .bool yes, .slice none 0 0, .int .i64 slt, .int .i64 epo, .slice none 0 0, .slice none 0 0, .slice none 0 0] 48 := (((((((((((((((hBk.wput0 _).wput1 _).wput2 _).wput3 _).wput4 _).wput5 _).wput6 _).wput7 _).wput8 _).wput9 _).wput10 _).wput11 _).wput12 _).wput13 _).wput14 _)
      refine wpOp_plain rfl rfl (op_skip (w' := (((((((((((((((w'.setCell ⟨B, 0, none⟩ (.int .i64 kind)).setCell ⟨B, 1, none⟩ (.int .i64 frm)).setCell ⟨B, 2, none⟩ (.int .i64 too)).setCell ⟨B, 3, none⟩ (.int .i64 call)).setCell ⟨B, 4, none⟩ (.int .i64 key)).setCell ⟨B, 5, none⟩ (.int .i64 0)).setCell ⟨B, 6, none⟩ (.int .i64 0)).setCell ⟨B, 7, none⟩ (.int .i64 val)).setCell ⟨B, 8, none⟩ (.bool yes)).setCell ⟨B, 9, none⟩ (.slice none 0 0)).setCell ⟨B, 10, none⟩ (.int .i64 slt)).setCell ⟨B, 11, none⟩ (.int .i64 epo)).setCell ⟨B, 12, none⟩ (.slice none 0 0)).setCell ⟨B, 13, none⟩ (.slice none 0 0)).setCell ⟨B, 14, none⟩ (.slice none 0 0))) ?_ rfl ?_)
      · simp [execOp, Act.eval, go_sem, hB, hv, z0, z1, z2, z3, z4, z5, z6, z7, z8, z9, z10, z11, z12, z13, z14, zf]
      · refine hK2 _ _ (Met.intro (hJ _ _ ⟨a.tmps.getD 3 undef, a.tmps.getD 4 undef, a.tmps.getD 5 undef, a.tmps.getD 6 undef, a.tmps.getD 7 undef, a.tmps.getD 8 undef, a.tmps.getD 9 undef, a.tmps.getD 10 undef, a.tmps.getD 11 undef, a.tmps.getD 12 undef, a.tmps.getD 13 undef, a.tmps.getD 14 undef, a.tmps.getD 15 undef, a.tmps.getD 16 undef, a.tmps.getD 17 undef, a.tmps.getD 18 undef, a.tmps.getD 19 undef, a.tmps.getD 20 undef, a.tmps.getD 21 undef, a.tmps.getD 22 undef, a.tmps.getD 23 undef, a.tmps.getD 24 undef, a.tmps.getD 25 undef, a.tmps.getD 26 undef, a.tmps.getD 27 undef, a.tmps.getD 28 undef, a.tmps.getD 29 undef, a.tmps.getD 30 undef, ⟨B, ⟨kind, frm, too, call, key, 0, 0, val, yes, [], slt, epo, [], [], [], none, 0, none, 0, none, 0, none, 0⟩, hB0, hBn, ?_⟩, hF.is (by simp)⟩))
        exact ⟨hb1, ⟨World.ownsRow_nil _ _ _ _, OwnVers.nil _ _, OwnVers.nil _ _, World.ownsRow_nil _ _ _ _⟩, ⟨by simp, few_nil, few_nil, by simp⟩, ⟨by show -100 ≤ frm; omega, hf1⟩, ⟨by show -100 ≤ too; omega, ht1⟩, hr1, hg1⟩
  case rest =>
  obtain ⟨B, x, rfl, hBn, hS⟩ := hcut
  have hgB : g < B := by omega
  go_step
  go_step
  go_cut [] from 31 to 55 (fun wx => ∃ x, WSt g N (q + 5000) B W0 x wx)
  case first =>
    obtain ⟨q1, hr1, hq1⟩ := hS.rd
    go_wp2_with fail
    refine (pick_any 5 N g q1 _ hr1 (by omega) (by omega) (by omega)).mono ?_
    rintro e w2 ⟨y, rfl, hy0, hy1, hr2, hg2⟩
    have hS2 := hS.step (n := q + 30) hg2 hgB ⟨_, hr2, by omega⟩
    have hBl2 := hS2.blk.lt
    have hyc : y = 0 ∨ y = 1 ∨ y = 2 ∨ y = 3 ∨ y = 4 := by omega
    rcases hyc with rfl | rfl | rfl | rfl | rfl
    · go_wp2_with fail
      refine (l72Stamp_any N g _ _ hr2 (by omega)).mono ?_
      rintro e w3 ⟨t, s, q3, rfl, -, -, -, -, -, hq3, hr3, hg3⟩
      have hS3 := hS2.step (n := q + 5000) hg3 hgB ⟨q3, hr3, by omega⟩
      obtain ⟨p0, p1, p2, p3, p4, p5, p6, p7, p8, p9, p10, p11, p12, p13, p14, pf, pl⟩ := hS3.blk.word
      have hS9 : WSt g N (q + 5000) B W0 { x with time := t, site := s } ((w3.setCell ⟨B, 5, none⟩ (.int .i64 t)).setCell ⟨B, 6, none⟩ (.int .i64 s)) := ⟨((hS3.blk.wput5 (.int .i64 t)).wput6 (.int .i64 s)), ⟨((OwnW.set (OwnW.set hS3.own (b := B) (o := 5) (by omega) (.int .i64 t)) (b := B) (o := 6) (by omega) (.int .i64 s))).dp, ((OwnW.set (OwnW.set hS3.own (b := B) (o := 5) (by omega) (.int .i64 t)) (b := B) (o := 6) (by omega) (.int .i64 s))).vr, ((OwnW.set (OwnW.set hS3.own (b := B) (o := 5) (by omega) (.int .i64 t)) (b := B) (o := 6) (by omega) (.int .i64 s))).wt, ((OwnW.set (OwnW.set hS3.own (b := B) (o := 5) (by omega) (.int .i64 t)) (b := B) (o := 6) (by omega) (.int .i64 s))).ow⟩, ⟨hS3.few.dp, hS3.few.vr, hS3.few.wt, hS3.few.ow⟩, hS3.f0, hS3.t0, ⟨q3, (Rd.setb (Rd.setb hr3 (b := B) (o := 5) (by omega) (.int .i64 t)) (b := B) (o := 6) (by omega) (.int .i64 s)), by omega⟩, (only_setb (only_setb hS3.gr (b := B) (o := 5) (by omega) (.int .i64 t)) (b := B) (o := 6) (by omega) (.int .i64 s))⟩
      go_wp2_with fail
      go_meet
      exact ⟨_, hS9⟩
    · go_wp2_with fail
      refine (l72Deps_any N g _ _ hr2 (by omega)).mono ?_
      rintro e w3 ⟨l, v, q3, rfl, hl, own3, hq3, hr3, hg3⟩
      obtain ⟨pp, cc, rfl, _⟩ := Reads.of_owns own3
      have hS3 := hS2.step (n := q + 5000) hg3 hgB ⟨q3, hr3, by omega⟩
      have own3 := own_base own3 (show B + 1 ≤ _ by omega)
      obtain ⟨p0, p1, p2, p3, p4, p5, p6, p7, p8, p9, p10, p11, p12, p13, p14, pf, pl⟩ := hS3.blk.word
      have hS9 : WSt g N (q + 5000) B W0 { x with deps := l, da := pp, dc := cc } (w3.setCell ⟨B, 9, none⟩ (.slice pp l.length cc)) := ⟨(hS3.blk.wput9 (.slice pp l.length cc)), ⟨(own_set own3 (own_ne' own3 (b := B) (by omega)) (o := 9) (.slice pp l.length cc)), ((OwnW.set hS3.own (b := B) (o := 9) (by omega) (.slice pp l.length cc))).vr, ((OwnW.set hS3.own (b := B) (o := 9) (by omega) (.slice pp l.length cc))).wt, ((OwnW.set hS3.own (b := B) (o := 9) (by omega) (.slice pp l.length cc))).ow⟩, ⟨by show l.length ≤ _; omega, hS3.few.vr, hS3.few.wt, hS3.few.ow⟩, hS3.f0, hS3.t0, ⟨q3, (Rd.setb hr3 (b := B) (o := 9) (by omega) (.slice pp l.length cc)), by omega⟩, (only_setb hS3.gr (b := B) (o := 9) (by omega) (.slice pp l.length cc))⟩
      go_wp2_with fail
      go_meet
      exact ⟨_, hS9⟩
    · go_wp2_with fail
      refine (l72Chain_any 5 N g _ _ hr2 (by omega) (by omega) (by omega)).mono ?_
      rintro e w3 ⟨v, l, q3, rfl, hl, hsm, T3, hq3, hr3, hg3⟩
      obtain ⟨pp, cc, rfl, _⟩ := T3.open_
      have hS3 := hS2.step (n := q + 5000) hg3 hgB ⟨q3, hr3, by omega⟩
      have T3 := T3.base (show B + 1 ≤ _ by omega)
      obtain ⟨p0, p1, p2, p3, p4, p5, p6, p7, p8, p9, p10, p11, p12, p13, p14, pf, pl⟩ := hS3.blk.word
      have hS9 : WSt g N (q + 5000) B W0 { x with vers := l, va := pp, vc := cc } (w3.setCell ⟨B, 12, none⟩ (.slice pp l.length cc)) := ⟨(hS3.blk.wput12 (.slice pp l.length cc)), ⟨((OwnW.set hS3.own (b := B) (o := 12) (by omega) (.slice pp l.length cc))).dp, (OwnVers.setn T3 (b := B) (o := 12) (by omega) (.slice pp l.length cc)), ((OwnW.set hS3.own (b := B) (o := 12) (by omega) (.slice pp l.length cc))).wt, ((OwnW.set hS3.own (b := B) (o := 12) (by omega) (.slice pp l.length cc))).ow⟩, ⟨hS3.few.dp, hsm.few hl, hS3.few.wt, hS3.few.ow⟩, hS3.f0, hS3.t0, ⟨q3, (Rd.setb hr3 (b := B) (o := 12) (by omega) (.slice pp l.length cc)), by omega⟩, (only_setb hS3.gr (b := B) (o := 12) (by omega) (.slice pp l.length cc))⟩
      go_wp2_with fail
      go_meet
      exact ⟨_, hS9⟩
    · go_wp2_with fail
      refine (l72Chain_any 4 N g _ _ hr2 (by omega) (by omega) (by omega)).mono ?_
      rintro e w3 ⟨v, l, q3, rfl, hl, hsm, T3, hq3, hr3, hg3⟩
      obtain ⟨pp, cc, rfl, _⟩ := T3.open_
      have hS3 := hS2.step (n := q + 4000) hg3 hgB ⟨q3, hr3, by omega⟩
      have T3 := T3.base (show B + 1 ≤ _ by omega)
      obtain ⟨p0, p1, p2, p3, p4, p5, p6, p7, p8, p9, p10, p11, p12, p13, p14, pf, pl⟩ := hS3.blk.word
      have hr4 := (Rd.setb hr3 (b := B) (o := 13) (by omega) (.slice pp l.length cc))
      have hS4 : WSt g N (q + 4000) B W0 { x with waits := l, wa := pp, wc := cc } (w3.setCell ⟨B, 13, none⟩ (.slice pp l.length cc)) := ⟨(hS3.blk.wput13 (.slice pp l.length cc)), ⟨((OwnW.set hS3.own (b := B) (o := 13) (by omega) (.slice pp l.length cc))).dp, ((OwnW.set hS3.own (b := B) (o := 13) (by omega) (.slice pp l.length cc))).vr, (OwnVers.setn T3 (b := B) (o := 13) (by omega) (.slice pp l.length cc)), ((OwnW.set hS3.own (b := B) (o := 13) (by omega) (.slice pp l.length cc))).ow⟩, ⟨hS3.few.dp, hS3.few.vr, hsm.few hl, hS3.few.ow⟩, hS3.f0, hS3.t0, ⟨q3, hr4, by omega⟩, (only_setb hS3.gr (b := B) (o := 13) (by omega) (.slice pp l.length cc))⟩
      have hBl4 := hS4.blk.lt
      go_wp2_with fail
      refine (l72Deps_any N g _ _ hr4 (by omega)).mono ?_
      rintro e w5 ⟨m, v, q5, rfl, hm, own5, hq5, hr5, hg5⟩
      obtain ⟨pq, cq, rfl, _⟩ := Reads.of_owns own5
      have hS5 := hS4.step (n := q + 5000) hg5 hgB ⟨q5, hr5, by omega⟩
      have own5 := own_base own5 (show B + 1 ≤ _ by omega)
      clear p0 p1 p2 p3 p4 p5 p6 p7 p8 p9 p10 p11 p12 p13 p14 pf pl
      obtain ⟨p0, p1, p2, p3, p4, p5, p6, p7, p8, p9, p10, p11, p12, p13, p14, pf, pl⟩ := hS5.blk.word
      have hS9 : WSt g N (q + 5000) B W0 { x with waits := l, wa := pp, wc := cc, owes := m, oa := pq, oc := cq } (w5.setCell ⟨B, 14, none⟩ (.slice pq m.length cq)) := ⟨(hS5.blk.wput14 (.slice pq m.length cq)), ⟨((OwnW.set hS5.own (b := B) (o := 14) (by omega) (.slice pq m.length cq))).dp, ((OwnW.set hS5.own (b := B) (o := 14) (by omega) (.slice pq m.length cq))).vr, ((OwnW.set hS5.own (b := B) (o := 14) (by omega) (.slice pq m.length cq))).wt, (own_set own5 (own_ne' own5 (b := B) (by omega)) (o := 14) (.slice pq m.length cq))⟩, ⟨hS5.few.dp, hS5.few.vr, hS5.few.wt, by show m.length ≤ _; omega⟩, hS5.f0, hS5.t0, ⟨q5, (Rd.setb hr5 (b := B) (o := 14) (by omega) (.slice pq m.length cq)), by omega⟩, (only_setb hS5.gr (b := B) (o := 14) (by omega) (.slice pq m.length cq))⟩
      go_wp2_with fail
      go_meet
      exact ⟨_, hS9⟩
    · go_wp2_with fail
      go_meet
      exact ⟨_, hS2.more (by omega)⟩
  case rest =>
  clear hS x
  obtain ⟨x, hS⟩ := hcut
  go_step
  go_step
  go_cut [] from 56 to 89 (fun wx => ∃ x, WSt g N (q + 6000) B W0 x wx)
  case first =>
    obtain ⟨q1, hr1, hq1⟩ := hS.rd
    go_wp2_with fail
    refine (pick_any 20 N g q1 _ hr1 (by omega) (by omega) (by omega)).mono ?_
    rintro e w2 ⟨y, rfl, hy0, hy1, hr2, hg2⟩
    have hS2 := hS.step (n := q + 5001) hg2 hgB ⟨_, hr2, by omega⟩
    have hBl2 := hS2.blk.lt
    have hyc : y = 0 ∨ y = 1 ∨ y = 2 ∨ y = 3 ∨ 3 < y := by omega
    rcases hyc with rfl | rfl | rfl | rfl | hy
    · have hbx := below_box w2 (.cells #[.int .i64 0, .int .i64 11] 3)
      go_wp2_with fail
      refine (pick_any 2 N g _ _ (hr2.alloc _) (by omega) (by omega) (by omega)).mono ?_
      rintro e w3 ⟨z, rfl, hz0, hz1, hr3, hg3⟩
      have hS3 := (hS2.step (n := q + 5001) (grown_of_below hbx _) hgB ⟨_, hr2.alloc _, by omega⟩).step (n := q + 6000) hg3 hgB ⟨_, hr3, by omega⟩
      have BT := (Blk.new w2 #[.int .i64 0, .int .i64 11] 3).grown hg3 (by omega)
      obtain ⟨p0, p1, p2, p3, p4, p5, p6, p7, p8, p9, p10, p11, p12, p13, p14, pf, pl⟩ := hS3.blk.word
      obtain ⟨t0, t1⟩ := (⟨BT.cell 0 rfl, BT.cell 1 rfl⟩ : w3.cell? ⟨w2.heap.size, 0, none⟩ = some (.int .i64 0) ∧ w3.cell? ⟨w2.heap.size, 1, none⟩ = some (.int .i64 11))
      have hzc : z = 0 ∨ z = 1 := by omega
      rcases hzc with rfl | rfl
      · have hS9 : WSt g N (q + 6000) B W0 { x with «kind» := 0 } (w3.setCell ⟨B, 0, none⟩ (.int .i64 0)) := ⟨(hS3.blk.wput0 (.int .i64 0)), ⟨((OwnW.set hS3.own (b := B) (o := 0) (by omega) (.int .i64 0))).dp, ((OwnW.set hS3.own (b := B) (o := 0) (by omega) (.int .i64 0))).vr, ((OwnW.set hS3.own (b := B) (o := 0) (by omega) (.int .i64 0))).wt, ((OwnW.set hS3.own (b := B) (o := 0) (by omega) (.int .i64 0))).ow⟩, ⟨hS3.few.dp, hS3.few.vr, hS3.few.wt, hS3.few.ow⟩, hS3.f0, hS3.t0, ⟨_, (Rd.setb hr3 (b := B) (o := 0) (by omega) (.int .i64 0)), by omega⟩, (only_setb hS3.gr (b := B) (o := 0) (by omega) (.int .i64 0))⟩
        go_wp2_with fail
        go_meet
        exact ⟨_, hS9⟩
      · have hS9 : WSt g N (q + 6000) B W0 { x with «kind» := 11 } (w3.setCell ⟨B, 0, none⟩ (.int .i64 11)) := ⟨(hS3.blk.wput0 (.int .i64 11)), ⟨((OwnW.set hS3.own (b := B) (o := 0) (by omega) (.int .i64 11))).dp, ((OwnW.set hS3.own (b := B) (o := 0) (by omega) (.int .i64 11))).vr, ((OwnW.set hS3.own (b := B) (o := 0) (by omega) (.int .i64 11))).wt, ((OwnW.set hS3.own (b := B) (o := 0) (by omega) (.int .i64 11))).ow⟩, ⟨hS3.few.dp, hS3.few.vr, hS3.few.wt, hS3.few.ow⟩, hS3.f0, hS3.t0, ⟨_, (Rd.setb hr3 (b := B) (o := 0) (by omega) (.int .i64 11)), by omega⟩, (only_setb hS3.gr (b := B) (o := 0) (by omega) (.int .i64 11))⟩
        go_wp2_with fail
        go_meet
        exact ⟨_, hS9⟩
    · have hbx := below_box w2 (.cells #[.int .i64 (-1), .int .i64 4, .int .i64 12] 3)
      go_wp2_with fail
      refine (pick_any 3 N g _ _ (hr2.alloc _) (by omega) (by omega) (by omega)).mono ?_
      rintro e w3 ⟨z, rfl, hz0, hz1, hr3, hg3⟩
      have hS3 := (hS2.step (n := q + 5001) (grown_of_below hbx _) hgB ⟨_, hr2.alloc _, by omega⟩).step (n := q + 6000) hg3 hgB ⟨_, hr3, by omega⟩
      have BT := (Blk.new w2 #[.int .i64 (-1), .int .i64 4, .int .i64 12] 3).grown hg3 (by omega)
      obtain ⟨p0, p1, p2, p3, p4, p5, p6, p7, p8, p9, p10, p11, p12, p13, p14, pf, pl⟩ := hS3.blk.word
      obtain ⟨t0, t1, t2⟩ := (⟨BT.cell 0 rfl, BT.cell 1 rfl, BT.cell 2 rfl⟩ : w3.cell? ⟨w2.heap.size, 0, none⟩ = some (.int .i64 (-1)) ∧ w3.cell? ⟨w2.heap.size, 1, none⟩ = some (.int .i64 4) ∧ w3.cell? ⟨w2.heap.size, 2, none⟩ = some (.int .i64 12))
      have hzc : z = 0 ∨ z = 1 ∨ z = 2 := by omega
      rcases hzc with rfl | rfl | rfl
      · have hS9 : WSt g N (q + 6000) B W0 { x with «to» := -1 } (w3.setCell ⟨B, 2, none⟩ (.int .i64 (-1))) := ⟨(hS3.blk.wput2 (.int .i64 (-1))), ⟨((OwnW.set hS3.own (b := B) (o := 2) (by omega) (.int .i64 (-1)))).dp, ((OwnW.set hS3.own (b := B) (o := 2) (by omega) (.int .i64 (-1)))).vr, ((OwnW.set hS3.own (b := B) (o := 2) (by omega) (.int .i64 (-1)))).wt, ((OwnW.set hS3.own (b := B) (o := 2) (by omega) (.int .i64 (-1)))).ow⟩, ⟨hS3.few.dp, hS3.few.vr, hS3.few.wt, hS3.few.ow⟩, hS3.f0, ⟨(by decide : (-100 : Int) ≤ -1), (by decide : (-1 : Int) ≤ 100)⟩, ⟨_, (Rd.setb hr3 (b := B) (o := 2) (by omega) (.int .i64 (-1))), by omega⟩, (only_setb hS3.gr (b := B) (o := 2) (by omega) (.int .i64 (-1)))⟩
        go_wp2_with fail
        go_meet
        exact ⟨_, hS9⟩
      · have hS9 : WSt g N (q + 6000) B W0 { x with «to» := 4 } (w3.setCell ⟨B, 2, none⟩ (.int .i64 4)) := ⟨(hS3.blk.wput2 (.int .i64 4)), ⟨((OwnW.set hS3.own (b := B) (o := 2) (by omega) (.int .i64 4))).dp, ((OwnW.set hS3.own (b := B) (o := 2) (by omega) (.int .i64 4))).vr, ((OwnW.set hS3.own (b := B) (o := 2) (by omega) (.int .i64 4))).wt, ((OwnW.set hS3.own (b := B) (o := 2) (by omega) (.int .i64 4))).ow⟩, ⟨hS3.few.dp, hS3.few.vr, hS3.few.wt, hS3.few.ow⟩, hS3.f0, ⟨(by decide : (-100 : Int) ≤ 4), (by decide : (4 : Int) ≤ 100)⟩, ⟨_, (Rd.setb hr3 (b := B) (o := 2) (by omega) (.int .i64 4)), by omega⟩, (only_setb hS3.gr (b := B) (o := 2) (by omega) (.int .i64 4))⟩
        go_wp2_with fail
        go_meet
        exact ⟨_, hS9⟩
      · have hS9 : WSt g N (q + 6000) B W0 { x with «to» := 12 } (w3.setCell ⟨B, 2, none⟩ (.int .i64 12)) := ⟨(hS3.blk.wput2 (.int .i64 12)), ⟨((OwnW.set hS3.own (b := B) (o := 2) (by omega) (.int .i64 12))).dp, ((OwnW.set hS3.own (b := B) (o := 2) (by omega) (.int .i64 12))).vr, ((OwnW.set hS3.own (b := B) (o := 2) (by omega) (.int .i64 12))).wt, ((OwnW.set hS3.own (b := B) (o := 2) (by omega) (.int .i64 12))).ow⟩, ⟨hS3.few.dp, hS3.few.vr, hS3.few.wt, hS3.few.ow⟩, hS3.f0, ⟨(by decide : (-100 : Int) ≤ 12), (by decide : (12 : Int) ≤ 100)⟩, ⟨_, (Rd.setb hr3 (b := B) (o := 2) (by omega) (.int .i64 12)), by omega⟩, (only_setb hS3.gr (b := B) (o := 2) (by omega) (.int .i64 12))⟩
        go_wp2_with fail
        go_meet
        exact ⟨_, hS9⟩
    · have hbx := below_box w2 (.cells #[.int .i64 (-1), .int .i64 3] 3)
      go_wp2_with fail
      refine (pick_any 2 N g _ _ (hr2.alloc _) (by omega) (by omega) (by omega)).mono ?_
      rintro e w3 ⟨z, rfl, hz0, hz1, hr3, hg3⟩
      have hS3 := (hS2.step (n := q + 5001) (grown_of_below hbx _) hgB ⟨_, hr2.alloc _, by omega⟩).step (n := q + 6000) hg3 hgB ⟨_, hr3, by omega⟩
      have BT := (Blk.new w2 #[.int .i64 (-1), .int .i64 3] 3).grown hg3 (by omega)
      obtain ⟨p0, p1, p2, p3, p4, p5, p6, p7, p8, p9, p10, p11, p12, p13, p14, pf, pl⟩ := hS3.blk.word
      obtain ⟨t0, t1⟩ := (⟨BT.cell 0 rfl, BT.cell 1 rfl⟩ : w3.cell? ⟨w2.heap.size, 0, none⟩ = some (.int .i64 (-1)) ∧ w3.cell? ⟨w2.heap.size, 1, none⟩ = some (.int .i64 3))
      have hzc : z = 0 ∨ z = 1 := by omega
      rcases hzc with rfl | rfl
      · have hS9 : WSt g N (q + 6000) B W0 { x with «slot» := -1 } (w3.setCell ⟨B, 10, none⟩ (.int .i64 (-1))) := ⟨(hS3.blk.wput10 (.int .i64 (-1))), ⟨((OwnW.set hS3.own (b := B) (o := 10) (by omega) (.int .i64 (-1)))).dp, ((OwnW.set hS3.own (b := B) (o := 10) (by omega) (.int .i64 (-1)))).vr, ((OwnW.set hS3.own (b := B) (o := 10) (by omega) (.int .i64 (-1)))).wt, ((OwnW.set hS3.own (b := B) (o := 10) (by omega) (.int .i64 (-1)))).ow⟩, ⟨hS3.few.dp, hS3.few.vr, hS3.few.wt, hS3.few.ow⟩, hS3.f0, hS3.t0, ⟨_, (Rd.setb hr3 (b := B) (o := 10) (by omega) (.int .i64 (-1))), by omega⟩, (only_setb hS3.gr (b := B) (o := 10) (by omega) (.int .i64 (-1)))⟩
        go_wp2_with fail
        go_meet
        exact ⟨_, hS9⟩
      · have hS9 : WSt g N (q + 6000) B W0 { x with «slot» := 3 } (w3.setCell ⟨B, 10, none⟩ (.int .i64 3)) := ⟨(hS3.blk.wput10 (.int .i64 3)), ⟨((OwnW.set hS3.own (b := B) (o := 10) (by omega) (.int .i64 3))).dp, ((OwnW.set hS3.own (b := B) (o := 10) (by omega) (.int .i64 3))).vr, ((OwnW.set hS3.own (b := B) (o := 10) (by omega) (.int .i64 3))).wt, ((OwnW.set hS3.own (b := B) (o := 10) (by omega) (.int .i64 3))).ow⟩, ⟨hS3.few.dp, hS3.few.vr, hS3.few.wt, hS3.few.ow⟩, hS3.f0, hS3.t0, ⟨_, (Rd.setb hr3 (b := B) (o := 10) (by omega) (.int .i64 3)), by omega⟩, (only_setb hS3.gr (b := B) (o := 10) (by omega) (.int .i64 3))⟩
        go_wp2_with fail
        go_meet
        exact ⟨_, hS9⟩
    · have hbx := below_box w2 (.cells #[.int .i64 (-1), .int .i64 10000] 3)
      go_wp2_with fail
      refine (pick_any 2 N g _ _ (hr2.alloc _) (by omega) (by omega) (by omega)).mono ?_
      rintro e w3 ⟨z, rfl, hz0, hz1, hr3, hg3⟩
      have hS3 := (hS2.step (n := q + 5001) (grown_of_below hbx _) hgB ⟨_, hr2.alloc _, by omega⟩).step (n := q + 6000) hg3 hgB ⟨_, hr3, by omega⟩
      have BT := (Blk.new w2 #[.int .i64 (-1), .int .i64 10000] 3).grown hg3 (by omega)
      obtain ⟨p0, p1, p2, p3, p4, p5, p6, p7, p8, p9, p10, p11, p12, p13, p14, pf, pl⟩ := hS3.blk.word
      obtain ⟨t0, t1⟩ := (⟨BT.cell 0 rfl, BT.cell 1 rfl⟩ : w3.cell? ⟨w2.heap.size, 0, none⟩ = some (.int .i64 (-1)) ∧ w3.cell? ⟨w2.heap.size, 1, none⟩ = some (.int .i64 10000))
      have hzc : z = 0 ∨ z = 1 := by omega
      rcases hzc with rfl | rfl
      · have hS9 : WSt g N (q + 6000) B W0 { x with «epoch» := -1 } (w3.setCell ⟨B, 11, none⟩ (.int .i64 (-1))) := ⟨(hS3.blk.wput11 (.int .i64 (-1))), ⟨((OwnW.set hS3.own (b := B) (o := 11) (by omega) (.int .i64 (-1)))).dp, ((OwnW.set hS3.own (b := B) (o := 11) (by omega) (.int .i64 (-1)))).vr, ((OwnW.set hS3.own (b := B) (o := 11) (by omega) (.int .i64 (-1)))).wt, ((OwnW.set hS3.own (b := B) (o := 11) (by omega) (.int .i64 (-1)))).ow⟩, ⟨hS3.few.dp, hS3.few.vr, hS3.few.wt, hS3.few.ow⟩, hS3.f0, hS3.t0, ⟨_, (Rd.setb hr3 (b := B) (o := 11) (by omega) (.int .i64 (-1))), by omega⟩, (only_setb hS3.gr (b := B) (o := 11) (by omega) (.int .i64 (-1)))⟩
        go_wp2_with fail
        go_meet
        exact ⟨_, hS9⟩
      · have hS9 : WSt g N (q + 6000) B W0 { x with «epoch» := 10000 } (w3.setCell ⟨B, 11, none⟩ (.int .i64 10000)) := ⟨(hS3.blk.wput11 (.int .i64 10000)), ⟨((OwnW.set hS3.own (b := B) (o := 11) (by omega) (.int .i64 10000))).dp, ((OwnW.set hS3.own (b := B) (o := 11) (by omega) (.int .i64 10000))).vr, ((OwnW.set hS3.own (b := B) (o := 11) (by omega) (.int .i64 10000))).wt, ((OwnW.set hS3.own (b := B) (o := 11) (by omega) (.int .i64 10000))).ow⟩, ⟨hS3.few.dp, hS3.few.vr, hS3.few.wt, hS3.few.ow⟩, hS3.f0, hS3.t0, ⟨_, (Rd.setb hr3 (b := B) (o := 11) (by omega) (.int .i64 10000)), by omega⟩, (only_setb hS3.gr (b := B) (o := 11) (by omega) (.int .i64 10000))⟩
        go_wp2_with fail
        go_meet
        exact ⟨_, hS9⟩
    · have y0 : (y == 0) = false := by simp; omega
      have y1 : (y == 1) = false := by simp; omega
      have y2 : (y == 2) = false := by simp; omega
      have y3 : (y == 3) = false := by simp; omega
      go_wp2_with fail
      go_meet
      exact ⟨_, hS2.more (by omega)⟩
  case rest =>
  clear hS x
  obtain ⟨x, hS⟩ := hcut
  have BR := hW0b.grown hS.gr (show w.heap.size ≠ g by omega)
  obtain ⟨y0, y1, y2, y3, y4, y5, y6, y7, y8, y9, y10, y11, y12, y13, y14, yf, yl⟩ := BR.word
  obtain ⟨z0, z1, z2, z3, z4, z5, z6, z7, z8, z9, z10, z11, z12, z13, z14, zf, zl⟩ := hS.blk.word
  have hown := (OwnW.set (OwnW.set (OwnW.set (OwnW.set (OwnW.set (OwnW.set (OwnW.set (OwnW.set (OwnW.set (OwnW.set (OwnW.set (OwnW.set (OwnW.set (OwnW.set (OwnW.set hS.own (b := w.heap.size) (o := 0) (by omega) (.int .i64 x.kind)) (b := w.heap.size) (o := 1) (by omega) (.int .i64 x.frm)) (b := w.heap.size) (o := 2) (by omega) (.int .i64 x.to)) (b := w.heap.size) (o := 3) (by omega) (.int .i64 x.call)) (b := w.heap.size) (o := 4) (by omega) (.int .i64 x.key)) (b := w.heap.size) (o := 5) (by omega) (.int .i64 x.time)) (b := w.heap.size) (o := 6) (by omega) (.int .i64 x.site)) (b := w.heap.size) (o := 7) (by omega) (.int .i64 x.val)) (b := w.heap.size) (o := 8) (by omega) (.bool x.yes)) (b := w.heap.size) (o := 9) (by omega) (.slice x.da x.deps.length x.dc)) (b := w.heap.size) (o := 10) (by omega) (.int .i64 x.slot)) (b := w.heap.size) (o := 11) (by omega) (.int .i64 x.epoch)) (b := w.heap.size) (o := 12) (by omega) (.slice x.va x.vers.length x.vc)) (b := w.heap.size) (o := 13) (by omega) (.slice x.wa x.waits.length x.wc)) (b := w.heap.size) (o := 14) (by omega) (.slice x.oa x.owes.length x.oc))
  have hgr := (only_setb (only_setb (only_setb (only_setb (only_setb (only_setb (only_setb (only_setb (only_setb (only_setb (only_setb (only_setb (only_setb (only_setb (only_setb (grown_trans' hW0g hS.gr) (b := w.heap.size) (o := 0) (Nat.le_refl _) (.int .i64 x.kind)) (b := w.heap.size) (o := 1) (Nat.le_refl _) (.int .i64 x.frm)) (b := w.heap.size) (o := 2) (Nat.le_refl _) (.int .i64 x.to)) (b := w.heap.size) (o := 3) (Nat.le_refl _) (.int .i64 x.call)) (b := w.heap.size) (o := 4) (Nat.le_refl _) (.int .i64 x.key)) (b := w.heap.size) (o := 5) (Nat.le_refl _) (.int .i64 x.time)) (b := w.heap.size) (o := 6) (Nat.le_refl _) (.int .i64 x.site)) (b := w.heap.size) (o := 7) (Nat.le_refl _) (.int .i64 x.val)) (b := w.heap.size) (o := 8) (Nat.le_refl _) (.bool x.yes)) (b := w.heap.size) (o := 9) (Nat.le_refl _) (.slice x.da x.deps.length x.dc)) (b := w.heap.size) (o := 10) (Nat.le_refl _) (.int .i64 x.slot)) (b := w.heap.size) (o := 11) (Nat.le_refl _) (.int .i64 x.epoch)) (b := w.heap.size) (o := 12) (Nat.le_refl _) (.slice x.va x.vers.length x.vc)) (b := w.heap.size) (o := 13) (Nat.le_refl _) (.slice x.wa x.waits.length x.wc)) (b := w.heap.size) (o := 14) (Nat.le_refl _) (.slice x.oa x.owes.length x.oc))
  go_wp2
  exact bodyPost_ret (v := .agg #[.int .i64 x.kind, .int .i64 x.frm, .int .i64 x.to, .int .i64 x.call, .int .i64 x.key, .int .i64 x.time, .int .i64 x.site, .int .i64 x.val, .bool x.yes, .slice x.da x.deps.length x.dc, .int .i64 x.slot, .int .i64 x.epoch, .slice x.va x.vers.length x.vc, .slice x.wa x.waits.length x.wc, .slice x.oa x.owes.length x.oc]) (by simp [results, Try.results64, go_sem, *]) rfl ⟨x, rfl, hown.base (by omega), hS.few, hS.f0, hS.t0, hgr⟩
end Go.Proofs.Ythciikogogkfcaa
