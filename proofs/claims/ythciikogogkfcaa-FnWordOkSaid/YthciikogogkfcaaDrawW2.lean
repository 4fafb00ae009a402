/- The draw of a word, from bytes. -/
import Derived.Test.YthciikogogkfcaaDrawW
namespace Go.Proofs.Ythciikogogkfcaa
open Go.RowKit Go.Deep
set_option linter.unusedVariables false
def DrawnAWord (w : World) (e : Ending) (w' : World) : Prop := ∃ x : Mw, e = .returned (.agg #[.int .i64 x.kind, .int .i64 x.frm, .int .i64 x.to, .int .i64 x.call, .int .i64 x.key, .int .i64 x.time, .int .i64 x.site, .int .i64 x.val, .bool x.yes, .slice x.da x.deps.length x.dc, .int .i64 x.slot, .int .i64 x.epoch, .slice x.va x.vers.length x.vc, .slice x.wa x.waits.length x.wc, .slice x.oa x.owes.length x.oc]) ∧ WordIn w' x ∧ FewW x ∧ (-100 ≤ x.frm ∧ x.frm ≤ 100) ∧ (-100 ≤ x.to ∧ x.to ≤ 100) ∧ Below w.heap.size w w'
set_option maxRecDepth 100000 in
set_option maxHeartbeats 2000000 in
theorem DrawWordOk_any (a : Option Addr) (len cap : Nat) (w : World) (hb : BytesIn w a len cap) :
    Calls Try.prog 24 #[.slice a len cap] w (DrawnAWord w) := by
  have C2 := Blk.new w #[.int .i64 0, .int .i64 0, .int .i64 0, .int .i64 0, .int .i64 0, .int .i64 0, .int .i64 0, .int .i64 0, .bool false, .slice none 0 0, .int .i64 0, .int .i64 0, .slice none 0 0, .slice none 0 0, .slice none 0 0] 48
  have hbx := below_box w (.cells #[.int .i64 0, .int .i64 0, .int .i64 0, .int .i64 0, .int .i64 0, .int .i64 0, .int .i64 0, .int .i64 0, .bool false, .slice none 0 0, .int .i64 0, .int .i64 0, .slice none 0 0, .slice none 0 0, .slice none 0 0] 48)
  have hb0 : BytesIn (w.alloc (.cells #[.int .i64 0, .int .i64 0, .int .i64 0, .int .i64 0, .int .i64 0, .int .i64 0, .int .i64 0, .int .i64 0, .bool false, .slice none 0 0, .int .i64 0, .int .i64 0, .slice none 0 0, .slice none 0 0, .slice none 0 0] 48)) a len cap := hb.below hbx
  go_enter Try.func24, Try.ntmps24
  go_wp2_with fail
  refine (open_any a len cap _ hb0).mono ?_
  rintro e w1 ⟨rfl, hr1, hb1⟩
  simp only [World.size_alloc] at hr1
  have hN := hr1.le
  have C2 := C2.below hb1 C2.lt
  have G1 := below_after hbx hb1
  go_wp2_with fail
  refine (l72Word_any _ _ _ _ hr1 (by omega)).mono ?_
  rintro e w2 ⟨x, rfl, hown, hf, hf0, ht0, hg2⟩
  have hs1 : w.heap.size < w1.heap.size := C2.lt
  have C2 := C2.grown hg2 (by omega)
  have G2 := below_grown G1 hg2 (by omega)
  obtain ⟨y0, y1, y2, y3, y4, y5, y6, y7, y8, y9, y10, y11, y12, y13, y14, yf, yl⟩ := C2.word
  have hown := (OwnW.set (OwnW.set (OwnW.set (OwnW.set (OwnW.set (OwnW.set (OwnW.set (OwnW.set (OwnW.set (OwnW.set (OwnW.set (OwnW.set (OwnW.set (OwnW.set (OwnW.set hown (b := w.heap.size) (o := 0) hs1 (.int .i64 x.kind)) (b := w.heap.size) (o := 1) hs1 (.int .i64 x.frm)) (b := w.heap.size) (o := 2) hs1 (.int .i64 x.to)) (b := w.heap.size) (o := 3) hs1 (.int .i64 x.call)) (b := w.heap.size) (o := 4) hs1 (.int .i64 x.key)) (b := w.heap.size) (o := 5) hs1 (.int .i64 x.time)) (b := w.heap.size) (o := 6) hs1 (.int .i64 x.site)) (b := w.heap.size) (o := 7) hs1 (.int .i64 x.val)) (b := w.heap.size) (o := 8) hs1 (.bool x.yes)) (b := w.heap.size) (o := 9) hs1 (.slice x.da x.deps.length x.dc)) (b := w.heap.size) (o := 10) hs1 (.int .i64 x.slot)) (b := w.heap.size) (o := 11) hs1 (.int .i64 x.epoch)) (b := w.heap.size) (o := 12) hs1 (.slice x.va x.vers.length x.vc)) (b := w.heap.size) (o := 13) hs1 (.slice x.wa x.waits.length x.wc)) (b := w.heap.size) (o := 14) hs1 (.slice x.oa x.owes.length x.oc))
  have G2 := (below_setb (below_setb (below_setb (below_setb (below_setb (below_setb (below_setb (below_setb (below_setb (below_setb (below_setb (below_setb (below_setb (below_setb (below_setb G2 (b := w.heap.size) (o := 0) (Nat.le_refl _) (.int .i64 x.kind)) (b := w.heap.size) (o := 1) (Nat.le_refl _) (.int .i64 x.frm)) (b := w.heap.size) (o := 2) (Nat.le_refl _) (.int .i64 x.to)) (b := w.heap.size) (o := 3) (Nat.le_refl _) (.int .i64 x.call)) (b := w.heap.size) (o := 4) (Nat.le_refl _) (.int .i64 x.key)) (b := w.heap.size) (o := 5) (Nat.le_refl _) (.int .i64 x.time)) (b := w.heap.size) (o := 6) (Nat.le_refl _) (.int .i64 x.site)) (b := w.heap.size) (o := 7) (Nat.le_refl _) (.int .i64 x.val)) (b := w.heap.size) (o := 8) (Nat.le_refl _) (.bool x.yes)) (b := w.heap.size) (o := 9) (Nat.le_refl _) (.slice x.da x.deps.length x.dc)) (b := w.heap.size) (o := 10) (Nat.le_refl _) (.int .i64 x.slot)) (b := w.heap.size) (o := 11) (Nat.le_refl _) (.int .i64 x.epoch)) (b := w.heap.size) (o := 12) (Nat.le_refl _) (.slice x.va x.vers.length x.vc)) (b := w.heap.size) (o := 13) (Nat.le_refl _) (.slice x.wa x.waits.length x.wc)) (b := w.heap.size) (o := 14) (Nat.le_refl _) (.slice x.oa x.owes.length x.oc))
  go_wp2
  exact bodyPost_ret (v := .agg #[.int .i64 x.kind, .int .i64 x.frm, .int .i64 x.to, .int .i64 x.call, .int .i64 x.key, .int .i64 x.time, .int .i64 x.site, .int .i64 x.val, .bool x.yes, .slice x.da x.deps.length x.dc, .int .i64 x.slot, .int .i64 x.epoch, .slice x.va x.vers.length x.vc, .slice x.wa x.waits.length x.wc, .slice x.oa x.owes.length x.oc]) (by simp [results, Try.results24, go_sem, *]) rfl ⟨x, rfl, hown.in_, hf, hf0, ht0, G2⟩
end Go.Proofs.Ythciikogogkfcaa
