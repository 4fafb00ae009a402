/- The newest version of a key: the program's walk over slices.Backward (a range over a function), and the reference's loop. -/
import Derived.RangeFuncNested
import Derived.RangeFuncBound
import Derived.RangeFuncCalls
import Derived.RangeFuncLeaves
import Derived.Shelf.Abstract
import Derived.WalkKit
import Derived.OwnWalkIn
import Derived.TacticsInMore
import Derived.LoopNIn
import Derived.LoopIn
import Derived.Test.YtiigdbmfpibbdaaChainW3
import Derived.Test.YtiigdbmfpibbdaaChainL
namespace Go.Proofs.Ytiigdbmfpibbdaa
open Go.RowKit Go.Shelf Go.Deep
set_option linter.unusedVariables false
attribute [local go_sem] Oper.semAt_some

/-- What the rounds keep: all that lay below, and the box of the slice. -/
def KpS (n₀ Bs : Nat) (W W' : World) : Prop := Below n₀ W W' ∧ ∀ cs T, Blk W Bs cs T → Blk W' Bs cs T
theorem KpS.t {n₀ Bs : Nat} {X Y Z : World} (h : KpS n₀ Bs X Y) (k : KpS n₀ Bs Y Z) : KpS n₀ Bs X Z := ⟨h.1.trans k.1, fun cs T hb => k.2 cs T (h.2 cs T hb)⟩
theorem Blk.putObj {W : World} {b l : Nat} {cs : Array Value} {T : TypeId} {o : Obj} (h : Blk W b cs T) (o' : Obj) (hl : W.heap[l]? = some o) (ho : o.isCells = false) : Blk (W.putObj l o') b cs T := by
  have hne : b ≠ l := fun e => by subst e; unfold Blk at h; rw [h] at hl; cases hl; cases ho
  unfold Blk at h ⊢
  rw [World.putObj_heap_other hne, h]
theorem KpS.b {n₀ Bs : Nat} {w : World} (hn : n₀ ≤ w.heap.size) (W : World) (l : Nat) (o o' : Obj) (hl : w.heap.size ≤ l) (h : W.heap[l]? = some o) (h1 : o.isCells = false) (h2 : o.isWalk = false) : KpS n₀ Bs W (W.putObj l o') :=
  ⟨belowK_b hn W l o o' hl h h1 h2, fun cs T hb => hb.putObj o' h h1⟩
theorem Blk.own {W W' : World} {b : Nat} {cs : Array Value} {T : TypeId} {row : Option Nat} (h : Blk W b cs T) (hg : W.grownBy W' row) (hr : ∀ r, row = some r → ∃ o : Obj, W.heap[r]? = some o ∧ o.isCells = false) : Blk W' b cs T := by
  have := hg.block b h.lt (fun e => by
    obtain ⟨o, ho, hc⟩ := hr b e.symm
    rw [show W.heap[b]? = _ from h] at ho; cases ho; cases hc)
  exact this.trans h
theorem own_kept {W W' : World} {base : Nat} {e : TypeId} {size : Nat} {v : Value} {k : Nat} {xs : List Value} {row : Option Nat} (hr : W.ownsRow base e size v k xs) (hg : W.grownBy W' row) (hrow : ∀ r, row = some r → ∃ o : Obj, W.heap[r]? = some o ∧ o.isCells = false) : W'.ownsRow base e size v k xs := by
  refine hr.kept hg ?_
  rcases hr.2 with ⟨rfl, _⟩ | ⟨g, cap, cur, rfl, _, hgb, _⟩
  · exact .inl rfl
  · refine .inr fun e' => ?_
    obtain ⟨o, ho, hc⟩ := hrow g (by simpa [Value.ownBlock] using e'.symm)
    rw [hgb] at ho; cases ho; cases hc
theorem Below.two {n m : Nat} {w w' : World} (h : Below m w w') (hn : n ≤ m) : Below n w w' := h.mono hn

set_option maxHeartbeats 1000000 in
theorem backward_in (F : Fence) (n : Nat) (hF : F.fn 125) (hro : F.round = none) (a : Option Addr) (len cap : Nat) (w : World) :
    CallsIn F n Try.prog 125 #[.slice a len cap] w fun e w' => e = .returned (.func (.func 132) #[] #[.pointer (some ⟨w.heap.size, 0, none⟩)]) ∧ w' = w.alloc (.cells #[.slice a len cap] 44) := by
  refine callsIn_of_wp Try.func125 rfl hF ?_ hro
  simp only [Try.ntmps125, List.size_toArray, List.length_cons, List.length_nil, Nat.reduceAdd, Nat.reduceSub, Array.replicate_succ, Array.replicate_zero, List.push_toArray, List.append_toArray, List.nil_append, List.cons_append]
  gi_wp2
  go_ret
  exact ⟨rfl, rfl⟩

set_option maxRecDepth 100000 in
set_option maxHeartbeats 2000000 in
theorem backward_stops (F : Fence) (n : Nat) (hF : F.fn 132) (hro : F.round = none) (hn : 1 ≤ n) (Bs : Nat) (l : List Mv) (a : Option Addr) (c : Nat) (w0 w : World) (hvs : Vers w0 a c l) (hl : l.length ≤ 1048577) (hb0 : Below w0.heap.size w0 w) (hBs : Blk w Bs #[.slice a l.length c] 44) :
    SeqStopsK F n Try.prog 132 #[.pointer (some ⟨Bs, 0, none⟩)] (fun x : Fin l.length => #[.int .i64 (x.1 : Int), .agg #[.int .i64 l[x.1].v.key, .int .i64 l[x.1].v.time, .int .i64 l[x.1].v.site, .int .i64 l[x.1].v.val, .int .i64 l[x.1].v.client, .int .i64 l[x.1].v.call, .slice l[x.1].a l[x.1].v.deps.length l[x.1].c]]) (KpS w0.heap.size Bs)
      (fun xs => ∀ x : Fin l.length, x ∈ xs) (fun pre => ∃ ini x, pre = ini ++ [x] ∧ ∀ y : Fin l.length, x.1 < y.1 → y ∈ ini) l.length w := fun lp J Jx W hW _ _ hY h0 => by
  have BW := hBs.below hW hBs.lt
  have hB0 : Below w0.heap.size w0 W := hb0.trans (hW.mono hb0.size)
  clear hb0 hW hBs
  refine callsIn_of_wp Try.func132 rfl hF ?_ hro
  simp only [Try.ntmps132, List.size_toArray, List.length_cons, List.length_nil, Nat.reduceAdd, Nat.reduceSub, Array.replicate_succ, Array.replicate_zero, List.push_toArray, List.append_toArray, List.nil_append, List.cons_append]
  obtain ⟨s0, sf, sl⟩ := BW.one
  gi_wp2
  gi_loopw [3] (fun i wr => ∃ (m : Nat) (i' : Int) (pre : List (Fin l.length)), m ≤ l.length ∧ i = .int .i64 i' ∧ (m : Int) = i' + 1 ∧ pre.length = l.length - m ∧ (∀ x : Fin l.length, m ≤ x.1 → x ∈ pre) ∧ J pre wr ∧ Below w0.heap.size w0 wr ∧ Blk wr Bs #[.slice a l.length c] 44)
    (fun i _ => (intOf i + 1).toNat)
  case atStart => exact ⟨l.length, _, [], Nat.le_refl _, by first | rfl | go_num, by omega, by simp, fun x hx => absurd x.2 (by omega), h0, hB0, BW⟩
  case round =>
    obtain ⟨m, i', pre, hm, rfl, hi, hlen, hall, hJs, hBr, BW⟩ := hrel
    obtain ⟨s0, sf, sl⟩ := BW.one
    have HA := Lib.hid hall
    clear hall
    cases m with
    | zero =>
      obtain rfl : i' = -1 := by omega
      gi_wp2
      go_end0
      exact ⟨⟨_, rfl⟩, .inl ⟨pre, fun x => HA.out x (Nat.zero_le _), hJs⟩⟩
    | succ k =>
      obtain rfl : i' = (k : Int) := by omega
      have hk : k < l.length := by omega
      have hi0 : (0 : Int) ≤ (k : Int) := by omega
      have hi1 : (k : Int) < (l.length : Int) := by omega
      obtain ⟨fn, tmps, assign, body, hy, hR⟩ := hY pre ⟨k, hk⟩ wr hJs (by omega)
      dsimp only at hy
      have hv := hvs.below hBr
      obtain ⟨b, off, hab, hbl, c0, c1, c2, c3, c4, c5, c6⟩ := hv.at_ k hk
      subst hab
      gi_wp2
      refine hR.mono ?_
      rintro e W3 (⟨rfl, hJ3, hk3, hk4⟩ | ⟨rfl, hJx3⟩)
      · gi_wp2
        go_roundw
        case rel => exact ⟨k, _, _, by omega, rfl, by go_num, by simp; omega, fun x hx => by
          rcases Nat.lt_or_ge k x.1 with h | h
          · exact List.mem_append_left _ (HA.out x h)
          · exact List.mem_append_right _ (by rw [List.mem_singleton]; exact Fin.ext (by simp; omega)), hJ3, hBr.trans hk3, hk4 _ _ BW⟩
        case measure => simp [intOf]
      · gi_wp2
        refine bodyPost_ret (results_none rfl _ _ _) rfl ?_
        exact ⟨⟨_, rfl⟩, .inr ⟨_, ⟨pre, ⟨k, hk⟩, rfl, fun y hy => HA.out y hy⟩, hJx3⟩⟩


def TopI (l : List Mv) (key : Int) (a : Option Addr) (c : Nat) (w : World) (pre : List (Fin l.length)) (W : World) : Prop :=
  ((∀ x : Fin l.length, x ∈ pre → ¬ l[x.1].v.key = key) ∧ Blk W w.heap.size #[.int .i64 key] 3 ∧ Blk W (w.heap.size + 1) #[.int .i64 0, .int .i64 0, .int .i64 0, .int .i64 0, .int .i64 0, .int .i64 0, .slice none 0 0] 61 ∧ Blk W (w.heap.size + 1 + 1) #[.bool false] 4 ∧ Blk W (w.heap.size + 1 + 1 + 1) #[.slice a l.length c] 44) ∧ Below w.heap.size w W
def TopX (l : List Mv) (key : Int) (w : World) (cd : Code) (pre : List (Fin l.length)) (W : World) : Prop :=
  (∃ (ini : List (Fin l.length)) (x : Fin l.length) (p : Option Addr) (cc : Nat), cd = .ret ∧ pre = ini ++ [x] ∧ (∀ x : Fin l.length, x ∈ ini → ¬ l[x.1].v.key = key) ∧ l[x.1].v.key = key ∧ Blk W (w.heap.size + 1) #[.int .i64 l[x.1].v.key, .int .i64 l[x.1].v.time, .int .i64 l[x.1].v.site, .int .i64 l[x.1].v.val, .int .i64 l[x.1].v.client, .int .i64 l[x.1].v.call, .slice p l[x.1].v.deps.length cc] 61 ∧ Blk W (w.heap.size + 1 + 1) #[.bool true] 4 ∧ W.ownsRow w.heap.size 34 3 (.slice p l[x.1].v.deps.length cc) l[x.1].v.deps.length (dpsC l[x.1].v.deps)) ∧ Below w.heap.size w W
theorem ko_set {X W : World} (h : KeepsOthers X W) (a : Addr) (v : Value) : KeepsOthers X (W.setCell a v) := h.trans (KeepsOthers.setCell _ _ _)
set_option maxRecDepth 100000 in
set_option maxHeartbeats 4000000 in
theorem top_impl (l : List Mv) (key : Int) (a : Option Addr) (c : Nat) (w : World) (hvs : Vers w a c l) (hf : Few l) :
    Calls Try.prog 94 #[.slice a l.length c, .int .i64 key] w (GivesO (topF (vs l) key) w) := by
  have hl := hf.1
  refine (callsIn_wide (n := 5)).1 ?_
  refine callsIn_of_wp_marks Try.func94 rfl trivial ?_ rfl
  simp only [Try.ntmps94, List.size_toArray, List.length_cons, List.length_nil, Nat.reduceAdd, Nat.reduceSub, Array.replicate_succ, Array.replicate_zero, List.push_toArray, List.append_toArray, List.nil_append, List.cons_append]
  have BK := Blk.new w #[.int .i64 key] 3
  have BR := Blk.new (w.alloc (.cells #[.int .i64 key] 3)) #[.int .i64 0, .int .i64 0, .int .i64 0, .int .i64 0, .int .i64 0, .int .i64 0, .slice none 0 0] 61
  have BB := Blk.new ((w.alloc (.cells #[.int .i64 key] 3)).alloc (.cells #[.int .i64 0, .int .i64 0, .int .i64 0, .int .i64 0, .int .i64 0, .int .i64 0, .slice none 0 0] 61)) #[.bool false] 4
  have BS := Blk.new (((w.alloc (.cells #[.int .i64 key] 3)).alloc (.cells #[.int .i64 0, .int .i64 0, .int .i64 0, .int .i64 0, .int .i64 0, .int .i64 0, .slice none 0 0] 61)).alloc (.cells #[.bool false] 4)) #[.slice a l.length c] 44
  simp only [World.size_alloc] at BR BB BS
  have BK := ((BK.alloc (.cells #[.int .i64 0, .int .i64 0, .int .i64 0, .int .i64 0, .int .i64 0, .int .i64 0, .slice none 0 0] 61)).alloc (.cells #[.bool false] 4)).alloc (.cells #[.slice a l.length c] 44)
  have BR := (BR.alloc (.cells #[.bool false] 4)).alloc (.cells #[.slice a l.length c] 44)
  have BB := BB.alloc (.cells #[.slice a l.length c] 44)
  have G0 : Below w.heap.size w ((((w.alloc (.cells #[.int .i64 key] 3)).alloc (.cells #[.int .i64 0, .int .i64 0, .int .i64 0, .int .i64 0, .int .i64 0, .int .i64 0, .slice none 0 0] 61)).alloc (.cells #[.bool false] 4)).alloc (.cells #[.slice a l.length c] 44)) := below_alloc (below_alloc (below_alloc (below_box w _) _) _) _
  have hsz : ((((w.alloc (.cells #[.int .i64 key] 3)).alloc (.cells #[.int .i64 0, .int .i64 0, .int .i64 0, .int .i64 0, .int .i64 0, .int .i64 0, .slice none 0 0] 61)).alloc (.cells #[.bool false] 4)).alloc (.cells #[.slice a l.length c] 44)).heap.size = w.heap.size + 1 + 1 + 1 + 1 := by simp
  gi_wp2_with (refine ⟨trivial, ?_⟩; gi_at_call 125; refine (backward_in Fence.wide _ trivial rfl _ _ _ _).mono ?_; rintro e w' ⟨rfl, rfl⟩)
  have hst := backward_stops Fence.wide 4 trivial rfl (by omega) (w.heap.size + 1 + 1 + 1) l a c w _ hvs hl G0 BS
  refine wpIn_rangeFunc_ownH (n := 5) (w := ((((w.alloc (.cells #[.int .i64 key] 3)).alloc (.cells #[.int .i64 0, .int .i64 0, .int .i64 0, .int .i64 0, .int .i64 0, .int .i64 0, .slice none 0 0] 61)).alloc (.cells #[.bool false] 4)).alloc (.cells #[.slice a l.length c] 44))) (α := Fin l.length) rfl (by omega) (gf := 132) (lb := #[.pointer (some ⟨w.heap.size + 1 + 1 + 1, 0, none⟩)]) rfl trivial (enters_of Try.func132 (by kernel_rfl) rfl)
    hst (fun h k => KpS.t h k) (KpS.b (by rw [hsz]; omega)) (Below.refl _ _) (by intro x; rfl)
    (TopI l key a c w) (TopX l key w)
    (OwnFrom.and (Own.from (fun s A B row hs hg hr => ⟨hs.1, hs.2.1.own hg hr, hs.2.2.1.own hg hr, hs.2.2.2.1.own hg hr, hs.2.2.2.2.own hg hr⟩) _) (ownFrom_below (Nat.le_refl _) (by rw [hsz]; omega)))
    (fun cd => OwnFrom.and (Own.from (fun s A B row hs hg hr => by
      obtain ⟨ini, x, p, cc, h1, h2, h3, h4, h5, h6, h7⟩ := hs
      exact ⟨ini, x, p, cc, h1, h2, h3, h4, h5.own hg hr, h6.own hg hr, own_kept h7 hg hr⟩) _) (ownFrom_below (Nat.le_refl _) (by rw [hsz]; omega)))
    ⟨⟨by simp, BK, BR, BB, BS⟩, G0⟩
    (fun (x : Fin l.length) a' W => ∃ Bx, w.heap.size + 1 + 1 + 1 + 1 ≤ Bx ∧ Blk W Bx #[.int .i64 l[x.1].v.key, .int .i64 l[x.1].v.time, .int .i64 l[x.1].v.site, .int .i64 l[x.1].v.val, .int .i64 l[x.1].v.client, .int .i64 l[x.1].v.call, .slice l[x.1].a l[x.1].v.deps.length l[x.1].c] 61 ∧ a' = { tmps := #[.slice a l.length c, .int .i64 key, undef, .pointer (some ⟨w.heap.size, 0, none⟩), .pointer (some ⟨w.heap.size + 1, 0, none⟩), .pointer (some ⟨w.heap.size + 1 + 1, 0, none⟩), undef, .pointer (some ⟨Bx, 0, none⟩), .slice a l.length c, .func (.func 132) #[] #[.pointer (some ⟨w.heap.size + 1 + 1 + 1, 0, none⟩)], .int .i64 (x.1 : Int), .agg #[.int .i64 l[x.1].v.key, .int .i64 l[x.1].v.time, .int .i64 l[x.1].v.site, .int .i64 l[x.1].v.val, .int .i64 l[x.1].v.client, .int .i64 l[x.1].v.call, .slice l[x.1].a l[x.1].v.deps.length l[x.1].c], undef, undef, undef, undef, undef, undef, undef], defers := [] })
    (fun x a' s A B row hs hg hr => by
      obtain ⟨Bx, h1, h2, h3⟩ := hs
      exact ⟨Bx, h1, h2.own hg (fun r e => (hr r e).2), h3⟩)
    ?assign ?body ?done ?stop
  case assign =>
    rintro lp pre x W K ⟨⟨hno, bK, bR, bB, bS⟩, hB⟩ hK
    have szW := bS.lt
    have HN := Lib.hid hno
    clear hno
    have bX := Blk.new W #[.int .i64 0, .int .i64 0, .int .i64 0, .int .i64 0, .int .i64 0, .int .i64 0, .slice none 0 0] 61
    obtain ⟨x0, x1, x2, x3, x4, x5, x6, xf, xl⟩ := bX.seven
    gi_wp2
    exact hK _ _ ((KeepsOthers.alloc _ _).from _) ⟨(Below.refl _ W).alloc hB.size _, fun cs T hb => hb.alloc _⟩ ⟨⟨HN.out, bK.alloc _, bR.alloc _, bB.alloc _, bS.alloc _⟩, below_alloc hB _⟩ ⟨W.heap.size, by omega, Blk.new _ _ _, rfl⟩
  case body =>
    rintro lp pre x a' W hlp hrec ⟨⟨hno, bK, bR, bB, bS⟩, hB⟩ ⟨Bx, hBx, bX, rfl⟩ hlt
    have HN := Lib.hid hno
    clear hno
    have szW := bS.lt
    obtain ⟨x0, x1, x2, x3, x4, x5, x6, xf, xl⟩ := bX.seven
    obtain ⟨k0, kf, kl⟩ := bK.one
    by_cases hk : l[x.1].v.key = key
    · have hk' : (l[x.1].v.key == key) = true := by simpa using hk
      have HK := Lib.hid hk
      clear hk
      gi_wp2_with fail
      refine ⟨trivial, (CallsIn.inRound lp (callsIn_wide.2 (clone_impl l[x.1].v l[x.1].a l[x.1].c W ((hvs.below hB).get x.1 x.2) (hf.get x.1 x.2)))).mono ?_⟩
      rintro e w1 ⟨p, cc, rfl, own, hb1⟩
      have hsz1 := hb1.size
      have bR := bR.below hb1 bR.lt
      have bB := bB.below hb1 bB.lt
      have bS := bS.below hb1 bS.lt
      have HB := Lib.hid hB
      have hB := below_after hB hb1
      have own := own_base own (show w.heap.size + 1 + 1 + 1 ≤ W.heap.size by omega)
      obtain ⟨r0, r1, r2, r3, r4, r5, r6, rf, rl⟩ := bR.seven
      obtain ⟨z0, zf, zl⟩ := bB.one
      gi_wp2
      refine ⟨(KeepsFrom.of_grownBy (grown_of_below hb1 none) (fun j e => by cases e)).trans ((ko_set (ko_set (ko_set (ko_set (ko_set (ko_set (ko_set (ko_set (KeepsOthers.refl _) ⟨w.heap.size + 1, 0, none⟩ (.int .i64 l[x.1].v.key)) ⟨w.heap.size + 1, 1, none⟩ (.int .i64 l[x.1].v.time)) ⟨w.heap.size + 1, 2, none⟩ (.int .i64 l[x.1].v.site)) ⟨w.heap.size + 1, 3, none⟩ (.int .i64 l[x.1].v.val)) ⟨w.heap.size + 1, 4, none⟩ (.int .i64 l[x.1].v.client)) ⟨w.heap.size + 1, 5, none⟩ (.int .i64 l[x.1].v.call)) ⟨w.heap.size + 1, 6, none⟩ (.slice p l[x.1].v.deps.length cc)) ⟨w.heap.size + 1 + 1, 0, none⟩ (.bool true)).from _), ⟨⟨pre, x, p, cc, rfl, rfl, HN.out, HK.out, ((((((((bR.put0 (.int .i64 l[x.1].v.key)).put1 (.int .i64 l[x.1].v.time)).put2 (.int .i64 l[x.1].v.site)).put3 (.int .i64 l[x.1].v.val)).put4 (.int .i64 l[x.1].v.client)).put5 (.int .i64 l[x.1].v.call)).put6 (.slice p l[x.1].v.deps.length cc)).setb (b' := w.heap.size + 1 + 1) (o := 0) (by omega) (.bool true)), ((((((((bB.setb (b' := w.heap.size + 1) (o := 0) (by omega) (.int .i64 l[x.1].v.key)).setb (b' := w.heap.size + 1) (o := 1) (by omega) (.int .i64 l[x.1].v.time)).setb (b' := w.heap.size + 1) (o := 2) (by omega) (.int .i64 l[x.1].v.site)).setb (b' := w.heap.size + 1) (o := 3) (by omega) (.int .i64 l[x.1].v.val)).setb (b' := w.heap.size + 1) (o := 4) (by omega) (.int .i64 l[x.1].v.client)).setb (b' := w.heap.size + 1) (o := 5) (by omega) (.int .i64 l[x.1].v.call)).setb (b' := w.heap.size + 1) (o := 6) (by omega) (.slice p l[x.1].v.deps.length cc)).set 0 (.bool true)), own_base (own_set (own_set (own_set (own_set (own_set (own_set (own_set (own_set own (own_ne' own (b := w.heap.size + 1) (by omega)) (o := 0) (.int .i64 l[x.1].v.key)) (own_ne' own (b := w.heap.size + 1) (by omega)) (o := 1) (.int .i64 l[x.1].v.time)) (own_ne' own (b := w.heap.size + 1) (by omega)) (o := 2) (.int .i64 l[x.1].v.site)) (own_ne' own (b := w.heap.size + 1) (by omega)) (o := 3) (.int .i64 l[x.1].v.val)) (own_ne' own (b := w.heap.size + 1) (by omega)) (o := 4) (.int .i64 l[x.1].v.client)) (own_ne' own (b := w.heap.size + 1) (by omega)) (o := 5) (.int .i64 l[x.1].v.call)) (own_ne' own (b := w.heap.size + 1) (by omega)) (o := 6) (.slice p l[x.1].v.deps.length cc)) (own_ne' own (b := w.heap.size + 1 + 1) (by omega)) (o := 0) (.bool true)) (by omega)⟩, (below_setb (below_setb (below_setb (below_setb (below_setb (below_setb (below_setb (below_setb hB (b := w.heap.size + 1) (o := 0) (by omega) (.int .i64 l[x.1].v.key)) (b := w.heap.size + 1) (o := 1) (by omega) (.int .i64 l[x.1].v.time)) (b := w.heap.size + 1) (o := 2) (by omega) (.int .i64 l[x.1].v.site)) (b := w.heap.size + 1) (o := 3) (by omega) (.int .i64 l[x.1].v.val)) (b := w.heap.size + 1) (o := 4) (by omega) (.int .i64 l[x.1].v.client)) (b := w.heap.size + 1) (o := 5) (by omega) (.int .i64 l[x.1].v.call)) (b := w.heap.size + 1) (o := 6) (by omega) (.slice p l[x.1].v.deps.length cc)) (b := w.heap.size + 1 + 1) (o := 0) (by omega) (.bool true))⟩⟩
    · have hk' : (l[x.1].v.key == key) = false := by simpa using hk
      have HK := Lib.hid hk
      clear hk
      gi_wp2
      refine ⟨KeepsFrom.refl _ _, ⟨Below.refl _ _, fun _ _ h => h⟩, ⟨⟨fun y hy => ?_, bK, bR, bB, bS⟩, hB⟩⟩
      rcases List.mem_append.1 hy with h | h
      · exact HN.out y h
      · rw [List.mem_singleton] at h; subst h; exact HK.out
  case done =>
    rintro D ys W hD hall ⟨⟨hno, bK, bR, bB, bS⟩, hB⟩ hKD
    have HR : Hid (topF (vs l) key = none) := topF_miss (fun v hv => by
      obtain ⟨m, hm, rfl⟩ := List.mem_map.1 hv
      obtain ⟨i, hi, rfl⟩ := List.getElem_of_mem hm
      exact hno ⟨i, hi⟩ (hall _))
    clear hall hno
    rw [hsz] at hD
    obtain ⟨r0, r1, r2, r3, r4, r5, r6, rf, rl⟩ := bR.seven
    obtain ⟨z0, zf, zl⟩ := bB.one
    have hK' := (ko_set (ko_set (ko_set (ko_set (ko_set (ko_set (ko_set (ko_set (KeepsOthers.refl _) ⟨w.heap.size + 1, 0, none⟩ (.int .i64 0)) ⟨w.heap.size + 1, 1, none⟩ (.int .i64 0)) ⟨w.heap.size + 1, 2, none⟩ (.int .i64 0)) ⟨w.heap.size + 1, 3, none⟩ (.int .i64 0)) ⟨w.heap.size + 1, 4, none⟩ (.int .i64 0)) ⟨w.heap.size + 1, 5, none⟩ (.int .i64 0)) ⟨w.heap.size + 1, 6, none⟩ (.slice none 0 0)) ⟨w.heap.size + 1 + 1, 0, none⟩ (.bool false)).same D _ hKD rfl
    have bR' := ((((((((bR.put0 (.int .i64 0)).put1 (.int .i64 0)).put2 (.int .i64 0)).put3 (.int .i64 0)).put4 (.int .i64 0)).put5 (.int .i64 0)).put6 (.slice none 0 0)).setb (b' := w.heap.size + 1 + 1) (o := 0) (by omega) (.bool false)).putObj (.deferred none) hK' rfl
    have bB' := ((((((((bB.setb (b' := w.heap.size + 1) (o := 0) (by omega) (.int .i64 0)).setb (b' := w.heap.size + 1) (o := 1) (by omega) (.int .i64 0)).setb (b' := w.heap.size + 1) (o := 2) (by omega) (.int .i64 0)).setb (b' := w.heap.size + 1) (o := 3) (by omega) (.int .i64 0)).setb (b' := w.heap.size + 1) (o := 4) (by omega) (.int .i64 0)).setb (b' := w.heap.size + 1) (o := 5) (by omega) (.int .i64 0)).setb (b' := w.heap.size + 1) (o := 6) (by omega) (.slice none 0 0)).set 0 (.bool false)).putObj (.deferred none) hK' rfl
    have hB' := (below_setb (below_setb (below_setb (below_setb (below_setb (below_setb (below_setb (below_setb hB (b := w.heap.size + 1) (o := 0) (by omega) (.int .i64 0)) (b := w.heap.size + 1) (o := 1) (by omega) (.int .i64 0)) (b := w.heap.size + 1) (o := 2) (by omega) (.int .i64 0)) (b := w.heap.size + 1) (o := 3) (by omega) (.int .i64 0)) (b := w.heap.size + 1) (o := 4) (by omega) (.int .i64 0)) (b := w.heap.size + 1) (o := 5) (by omega) (.int .i64 0)) (b := w.heap.size + 1) (o := 6) (by omega) (.slice none 0 0)) (b := w.heap.size + 1 + 1) (o := 0) (by omega) (.bool false)).trans (belowK_b (w := w) (Nat.le_refl _) _ D _ (.deferred none) (by omega) hK' rfl rfl)
    gi_wp2
    obtain ⟨u0, u1, u2, u3, u4, u5, u6, uf, ul⟩ := bR'.seven
    obtain ⟨v0, vf, vl⟩ := bB'.one
    refine ⟨by simp, .inl ⟨_, _, rfl, run_takeDeferred hK', ?_⟩⟩
    exact ⟨.tuple #[.agg #[.int .i64 0, .int .i64 0, .int .i64 0, .int .i64 0, .int .i64 0, .int .i64 0, .slice none 0 0], .bool false], by simp [results, Try.results94, go_sem, *], gives_none HR.out hB'⟩
  case stop =>
    rintro D cd pre W hD ⟨ini, x, rfl, hafter⟩ ⟨⟨ini', x', p, cc, rfl, he, hno, hk, bR, bB, own⟩, hB⟩ hKD
    obtain ⟨rfl, e5⟩ := List.append_inj' he rfl
    obtain rfl : x = x' := by simpa using e5
    have HR : Hid (topF (vs l) key = some l[x.1].v) := by
      show _ = _
      rw [topF_at (k := x.1) (by rw [vs_len]; exact x.2) (by rw [vs_get l x.1 x.2]; exact hk) (fun v hv => ?_), vs_get l x.1 x.2]
      obtain ⟨i, hi, rfl⟩ := List.getElem_of_mem hv
      rw [List.getElem_drop, vs_get l _ (by rw [List.length_drop, vs_len] at hi; omega)]
      exact hno ⟨x.1 + 1 + i, by rw [List.length_drop, vs_len] at hi; omega⟩ (hafter _ (by simp; omega))
    clear hafter hno hk he
    rw [hsz] at hD
    have bR' := bR.putObj (.deferred none) hKD rfl
    have bB' := bB.putObj (.deferred none) hKD rfl
    have hB' := hB.trans (belowK_b (w := w) (Nat.le_refl _) _ D _ (.deferred none) (by omega) hKD rfl rfl)
    have own' := ownsRow_putObj own (.deferred none) hKD rfl
    gi_wp2
    obtain ⟨u0, u1, u2, u3, u4, u5, u6, uf, ul⟩ := bR'.seven
    obtain ⟨v0, vf, vl⟩ := bB'.one
    refine ⟨by simp, .inl ⟨_, _, rfl, run_takeDeferred hKD, ?_⟩⟩
    exact ⟨.tuple #[.agg #[.int .i64 l[x.1].v.key, .int .i64 l[x.1].v.time, .int .i64 l[x.1].v.site, .int .i64 l[x.1].v.val, .int .i64 l[x.1].v.client, .int .i64 l[x.1].v.call, .slice p l[x.1].v.deps.length cc], .bool true], by simp [results, Try.results94, go_sem, *], gives_some HR.out own' hB'⟩

end Go.Proofs.Ytiigdbmfpibbdaa
