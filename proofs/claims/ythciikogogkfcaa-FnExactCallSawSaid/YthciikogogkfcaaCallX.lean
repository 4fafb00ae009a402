/- Calls handed over, counted and compared by the laws' own functions. -/
import Derived.Test.YthciikogogkfcaaCallW
import Derived.Test.YthciikogogkfcaaConvVS
import Derived.Test.YthciikogogkfcaaWordX
namespace Go.Proofs.Ythciikogogkfcaa
open Go.RowKit Go.Deep
set_option linter.unusedVariables false

theorem Blk.nput0 {w : World} {b : Nat} {x0 x1 x2 x3 x4 x5 x6 x7 x8 : Value} {T : TypeId} (h : Blk w b #[x0, x1, x2, x3, x4, x5, x6, x7, x8] T) (y : Value) : Blk (w.setCell ⟨b, 0, none⟩ y) b #[y, x1, x2, x3, x4, x5, x6, x7, x8] T := h.set 0 y
theorem Blk.nput1 {w : World} {b : Nat} {x0 x1 x2 x3 x4 x5 x6 x7 x8 : Value} {T : TypeId} (h : Blk w b #[x0, x1, x2, x3, x4, x5, x6, x7, x8] T) (y : Value) : Blk (w.setCell ⟨b, 1, none⟩ y) b #[x0, y, x2, x3, x4, x5, x6, x7, x8] T := h.set 1 y
theorem Blk.nput2 {w : World} {b : Nat} {x0 x1 x2 x3 x4 x5 x6 x7 x8 : Value} {T : TypeId} (h : Blk w b #[x0, x1, x2, x3, x4, x5, x6, x7, x8] T) (y : Value) : Blk (w.setCell ⟨b, 2, none⟩ y) b #[x0, x1, y, x3, x4, x5, x6, x7, x8] T := h.set 2 y
theorem Blk.nput3 {w : World} {b : Nat} {x0 x1 x2 x3 x4 x5 x6 x7 x8 : Value} {T : TypeId} (h : Blk w b #[x0, x1, x2, x3, x4, x5, x6, x7, x8] T) (y : Value) : Blk (w.setCell ⟨b, 3, none⟩ y) b #[x0, x1, x2, y, x4, x5, x6, x7, x8] T := h.set 3 y
theorem Blk.nput4 {w : World} {b : Nat} {x0 x1 x2 x3 x4 x5 x6 x7 x8 : Value} {T : TypeId} (h : Blk w b #[x0, x1, x2, x3, x4, x5, x6, x7, x8] T) (y : Value) : Blk (w.setCell ⟨b, 4, none⟩ y) b #[x0, x1, x2, x3, y, x5, x6, x7, x8] T := h.set 4 y
theorem Blk.nput5 {w : World} {b : Nat} {x0 x1 x2 x3 x4 x5 x6 x7 x8 : Value} {T : TypeId} (h : Blk w b #[x0, x1, x2, x3, x4, x5, x6, x7, x8] T) (y : Value) : Blk (w.setCell ⟨b, 5, none⟩ y) b #[x0, x1, x2, x3, x4, y, x6, x7, x8] T := h.set 5 y
theorem Blk.nput6 {w : World} {b : Nat} {x0 x1 x2 x3 x4 x5 x6 x7 x8 : Value} {T : TypeId} (h : Blk w b #[x0, x1, x2, x3, x4, x5, x6, x7, x8] T) (y : Value) : Blk (w.setCell ⟨b, 6, none⟩ y) b #[x0, x1, x2, x3, x4, x5, y, x7, x8] T := h.set 6 y
theorem Blk.nput7 {w : World} {b : Nat} {x0 x1 x2 x3 x4 x5 x6 x7 x8 : Value} {T : TypeId} (h : Blk w b #[x0, x1, x2, x3, x4, x5, x6, x7, x8] T) (y : Value) : Blk (w.setCell ⟨b, 7, none⟩ y) b #[x0, x1, x2, x3, x4, x5, x6, y, x8] T := h.set 7 y
theorem Blk.nput8 {w : World} {b : Nat} {x0 x1 x2 x3 x4 x5 x6 x7 x8 : Value} {T : TypeId} (h : Blk w b #[x0, x1, x2, x3, x4, x5, x6, x7, x8] T) (y : Value) : Blk (w.setCell ⟨b, 8, none⟩ y) b #[x0, x1, x2, x3, x4, x5, x6, x7, y] T := h.set 8 y
theorem Blk.cput0 {w : World} {b : Nat} {x0 x1 x2 x3 x4 x5 x6 x7 x8 x9 x10 x11 x12 : Value} {T : TypeId} (h : Blk w b #[x0, x1, x2, x3, x4, x5, x6, x7, x8, x9, x10, x11, x12] T) (y : Value) : Blk (w.setCell ⟨b, 0, none⟩ y) b #[y, x1, x2, x3, x4, x5, x6, x7, x8, x9, x10, x11, x12] T := h.set 0 y
theorem Blk.cput1 {w : World} {b : Nat} {x0 x1 x2 x3 x4 x5 x6 x7 x8 x9 x10 x11 x12 : Value} {T : TypeId} (h : Blk w b #[x0, x1, x2, x3, x4, x5, x6, x7, x8, x9, x10, x11, x12] T) (y : Value) : Blk (w.setCell ⟨b, 1, none⟩ y) b #[x0, y, x2, x3, x4, x5, x6, x7, x8, x9, x10, x11, x12] T := h.set 1 y
theorem Blk.cput2 {w : World} {b : Nat} {x0 x1 x2 x3 x4 x5 x6 x7 x8 x9 x10 x11 x12 : Value} {T : TypeId} (h : Blk w b #[x0, x1, x2, x3, x4, x5, x6, x7, x8, x9, x10, x11, x12] T) (y : Value) : Blk (w.setCell ⟨b, 2, none⟩ y) b #[x0, x1, y, x3, x4, x5, x6, x7, x8, x9, x10, x11, x12] T := h.set 2 y
theorem Blk.cput3 {w : World} {b : Nat} {x0 x1 x2 x3 x4 x5 x6 x7 x8 x9 x10 x11 x12 : Value} {T : TypeId} (h : Blk w b #[x0, x1, x2, x3, x4, x5, x6, x7, x8, x9, x10, x11, x12] T) (y : Value) : Blk (w.setCell ⟨b, 3, none⟩ y) b #[x0, x1, x2, y, x4, x5, x6, x7, x8, x9, x10, x11, x12] T := h.set 3 y
theorem Blk.cput4 {w : World} {b : Nat} {x0 x1 x2 x3 x4 x5 x6 x7 x8 x9 x10 x11 x12 : Value} {T : TypeId} (h : Blk w b #[x0, x1, x2, x3, x4, x5, x6, x7, x8, x9, x10, x11, x12] T) (y : Value) : Blk (w.setCell ⟨b, 4, none⟩ y) b #[x0, x1, x2, x3, y, x5, x6, x7, x8, x9, x10, x11, x12] T := h.set 4 y
theorem Blk.cput5 {w : World} {b : Nat} {x0 x1 x2 x3 x4 x5 x6 x7 x8 x9 x10 x11 x12 : Value} {T : TypeId} (h : Blk w b #[x0, x1, x2, x3, x4, x5, x6, x7, x8, x9, x10, x11, x12] T) (y : Value) : Blk (w.setCell ⟨b, 5, none⟩ y) b #[x0, x1, x2, x3, x4, y, x6, x7, x8, x9, x10, x11, x12] T := h.set 5 y
theorem Blk.cput6 {w : World} {b : Nat} {x0 x1 x2 x3 x4 x5 x6 x7 x8 x9 x10 x11 x12 : Value} {T : TypeId} (h : Blk w b #[x0, x1, x2, x3, x4, x5, x6, x7, x8, x9, x10, x11, x12] T) (y : Value) : Blk (w.setCell ⟨b, 6, none⟩ y) b #[x0, x1, x2, x3, x4, x5, y, x7, x8, x9, x10, x11, x12] T := h.set 6 y
theorem Blk.cput7 {w : World} {b : Nat} {x0 x1 x2 x3 x4 x5 x6 x7 x8 x9 x10 x11 x12 : Value} {T : TypeId} (h : Blk w b #[x0, x1, x2, x3, x4, x5, x6, x7, x8, x9, x10, x11, x12] T) (y : Value) : Blk (w.setCell ⟨b, 7, none⟩ y) b #[x0, x1, x2, x3, x4, x5, x6, y, x8, x9, x10, x11, x12] T := h.set 7 y
theorem Blk.cput8 {w : World} {b : Nat} {x0 x1 x2 x3 x4 x5 x6 x7 x8 x9 x10 x11 x12 : Value} {T : TypeId} (h : Blk w b #[x0, x1, x2, x3, x4, x5, x6, x7, x8, x9, x10, x11, x12] T) (y : Value) : Blk (w.setCell ⟨b, 8, none⟩ y) b #[x0, x1, x2, x3, x4, x5, x6, x7, y, x9, x10, x11, x12] T := h.set 8 y
theorem Blk.cput9 {w : World} {b : Nat} {x0 x1 x2 x3 x4 x5 x6 x7 x8 x9 x10 x11 x12 : Value} {T : TypeId} (h : Blk w b #[x0, x1, x2, x3, x4, x5, x6, x7, x8, x9, x10, x11, x12] T) (y : Value) : Blk (w.setCell ⟨b, 9, none⟩ y) b #[x0, x1, x2, x3, x4, x5, x6, x7, x8, y, x10, x11, x12] T := h.set 9 y
theorem Blk.cput10 {w : World} {b : Nat} {x0 x1 x2 x3 x4 x5 x6 x7 x8 x9 x10 x11 x12 : Value} {T : TypeId} (h : Blk w b #[x0, x1, x2, x3, x4, x5, x6, x7, x8, x9, x10, x11, x12] T) (y : Value) : Blk (w.setCell ⟨b, 10, none⟩ y) b #[x0, x1, x2, x3, x4, x5, x6, x7, x8, x9, y, x11, x12] T := h.set 10 y
theorem Blk.cput11 {w : World} {b : Nat} {x0 x1 x2 x3 x4 x5 x6 x7 x8 x9 x10 x11 x12 : Value} {T : TypeId} (h : Blk w b #[x0, x1, x2, x3, x4, x5, x6, x7, x8, x9, x10, x11, x12] T) (y : Value) : Blk (w.setCell ⟨b, 11, none⟩ y) b #[x0, x1, x2, x3, x4, x5, x6, x7, x8, x9, x10, y, x12] T := h.set 11 y
theorem Blk.cput12 {w : World} {b : Nat} {x0 x1 x2 x3 x4 x5 x6 x7 x8 x9 x10 x11 x12 : Value} {T : TypeId} (h : Blk w b #[x0, x1, x2, x3, x4, x5, x6, x7, x8, x9, x10, x11, x12] T) (y : Value) : Blk (w.setCell ⟨b, 12, none⟩ y) b #[x0, x1, x2, x3, x4, x5, x6, x7, x8, x9, x10, x11, y] T := h.set 12 y
theorem infoIntI : (Try.prog.info? 3).map (fun i => (i.zero, i.size, i.bytes)) = some (some (.int .i64 0), 1, 8) := by kernel_rfl
/-- The slice handed back is new memory of the callee's own, and holds l. -/
def ToNewInt (l : List Int) (w : World) (e : Ending) (w' : World) : Prop := ∃ v, e = .returned v ∧ w'.ownsRow w.heap.size 3 1 v l.length (intsC l) ∧ Below w.heap.size w w'
set_option maxHeartbeats 1000000 in
theorem toIntS_laws (l : List Int) (a : Option Addr) (cap : Nat) (w : World) (hr : Reads w a l.length cap (intsC l)) (hl : l.length ≤ 1048577) :
    Calls Try.prog 93 #[.slice a l.length cap] w (ToNewInt l w) := by
  obtain ⟨i0, hi, hz0, hz1, hz2⟩ := info_parts infoIntI
  have hmk := fun W => run_make_rowN (P := Try.prog) 65 3 i0 _ Try.underlying65 hi hz0 .i64 .i64 l.length l.length (Nat.le_refl _) (by rw [hz2]; omega) (by omega) W
  rw [hz1] at hmk
  go_enter Try.func93, Try.ntmps93
  go_wp2
  have r0 := row_made w (intsC l) #[.int .i64 0] l.length 3
  have hb0 := below_box w (.cells (madeCells #[.int .i64 0] l.length) 3)
  go_loopw [4] (fun i wr => ∃ k : Nat, k ≤ l.length ∧ i = .int .i64 k ∧ wr.rowIs w.heap.size 3 l.length (fillF (intsC l) #[.int .i64 0] k) ∧ Below w.heap.size w wr) (fun i _ => l.length - (intOf i).toNat)
  case atStart => exact ⟨0, Nat.zero_le _, rfl, by simpa using r0, hb0⟩
  case round =>
    obtain ⟨k, hk, rfl, hrow, hb⟩ := hrel
    by_cases hlt : k < l.length
    · have hr' := hr.below hb
      obtain ⟨_, _, h3⟩ := hr'
      obtain ⟨b, off, rfl, hbl, hcell⟩ := h3 (intsC_ne (by omega))
      have g0 := intsC_get l k hlt
      have c0 := hcell _ _ g0
      have c0' : wr.cell? ⟨b, off + k * 1, none⟩ = some (.int .i64 l[k]) := by rw [Nat.mul_one]; exact c0
      clear hcell h3
      have hrow3 := row_fill1 hrow g0
      have f0 := fun o => hrow.frozen o
      have hx0 := hrow.cell (i := k) (by omega)
      have hx0' := hx0
      rw [← Nat.mul_one k] at hx0'
      have hbw := hb
      go_wp2
      go_roundw
      case rel =>
        refine ⟨k + 1, by omega, by go_num, ?_, by repeat (first | exact hbw | refine below_setb ?_ (Nat.le_refl _) _)⟩
        exact hrow3
      case measure => simp [intOf]; omega
    · obtain rfl : k = l.length := by omega
      go_wp2
      go_ret
      exact ⟨_, rfl, row_owns (k := 1) (by rw [Nat.mul_one]; exact hrow) (by rw [intsC_len, Nat.mul_one]) (Nat.le_refl _) (by unfold maxLen; omega), hb⟩
set_option maxHeartbeats 400000 in
theorem szIntS_laws (n : Nat) (left : Int) (a : Option Addr) (cap : Nat) (w : World) (h0 : 0 ≤ left) (h1 : left ≤ 1048576) (hn : n ≤ maxLen) :
    Calls Try.prog 86 #[.slice a n cap, .int .i64 left] w fun e w' => e = .returned (.int .i64 (szR left n)) ∧ w = w' := by
  unfold maxLen at hn
  by_cases h : left < (n : Int)
  · have h' : left - (n : Int) < 0 := by omega
    go_enter Try.func86, Try.ntmps86
    go_wp2
    go_ret
    exact ⟨by rw [szR, if_pos (by omega)]; rfl, rfl⟩
  · have h' : (0 : Int) ≤ left - (n : Int) := by omega
    go_enter Try.func86, Try.ntmps86
    go_wp2
    go_ret
    exact ⟨by rw [szR, if_neg (by omega)]; rfl, rfl⟩
set_option maxHeartbeats 1000000 in
theorem eqIntS_same (l : List Int) (a a' : Option Addr) (cap cap' : Nat) (w : World) (hr : Reads w a l.length cap (intsC l)) (hs : Reads w a' l.length cap' (intsC l)) :
    Calls Try.prog 99 #[.slice a l.length cap, .slice a' l.length cap'] w fun e w' => e = .returned (.bool true) ∧ Below w.heap.size w w' := by
  have hn := hr.len
  go_enter Try.func99, Try.ntmps99
  go_wp2
  go_loopw [5] (fun i wr => ∃ k : Nat, k ≤ l.length ∧ i = .int .i64 k ∧ Below w.heap.size w wr) (fun i _ => l.length - (intOf i).toNat)
  case atStart => exact ⟨0, Nat.zero_le _, rfl, Below.refl _ _⟩
  case round =>
    obtain ⟨k, hk, rfl, hb⟩ := hrel
    by_cases hlt : k < l.length
    · have hr' := hr.below hb
      have hs' := hs.below hb
      obtain ⟨_, _, h3⟩ := hr'
      obtain ⟨_, _, h4⟩ := hs'
      obtain ⟨b, off, rfl, hbl, hcell⟩ := h3 (intsC_ne (by omega))
      obtain ⟨b', off', rfl, hbl', hcell'⟩ := h4 (intsC_ne (by omega))
      have g0 := intsC_get l k hlt
      have c0 := hcell _ _ g0
      have d0 := hcell' _ _ g0
      have c0' : wr.cell? ⟨b, off + k * 1, none⟩ = some (.int .i64 l[k]) := by rw [Nat.mul_one]; exact c0
      have d0' : wr.cell? ⟨b', off' + k * 1, none⟩ = some (.int .i64 l[k]) := by rw [Nat.mul_one]; exact d0
      have hi0 : (0 : Int) ≤ (k : Int) := by omega
      have hi1 : (k : Int) < (l.length : Int) := by omega
      clear hcell h3 hcell' h4 g0
      go_wp2
      refine region_over (by kernel_rfl) (by kernel_rfl) ?_
      repeat (go_big_quiet_step (fail))
      refine wpQuiet_nil ?_
      intro w1 hb1
      have hbw := below_after hb hb1
      go_wp2
      go_roundw
      case rel => exact ⟨k + 1, by omega, by go_num, hbw⟩
      case measure => simp [intOf]; omega
    · obtain rfl : k = l.length := by omega
      go_wp2
      go_ret
      exact ⟨rfl, hb⟩

/-! Answers in memory of one's own. -/
def anV (m : An) : Mv := ⟨m.p.v, m.a, m.c⟩
structure OwnAns (N : Nat) (w : World) (v : Value) (l : List An) : Prop where
  own : w.ownsRow N 114 9 v l.length (ansC l)
  inn : OwnIn N w (l.map anV)
theorem OwnAns.below {N : Nat} {w w' : World} {v : Value} {l : List An} (h : OwnAns N w v l) (hb : Below w.heap.size w w') : OwnAns N w' v l := ⟨own_below h.own hb, h.inn.below hb⟩
theorem OwnAns.base {N M : Nat} {w : World} {v : Value} {l : List An} (h : OwnAns N w v l) (hM : M ≤ N) : OwnAns M w v l := ⟨own_base h.own hM, h.inn.base hM⟩
theorem OwnAns.ans {N c : Nat} {w : World} {a : Option Addr} {l : List An} (h : OwnAns N w (.slice a l.length c) l) : Ans w a c l := ⟨Reads.own h.own, fun m hm => h.inn.reads (anV m) (List.mem_map_of_mem hm)⟩
theorem OwnAns.open_ {N : Nat} {w : World} {v : Value} {l : List An} (h : OwnAns N w v l) : ∃ a c, v = .slice a l.length c ∧ Ans w a c l := by
  obtain ⟨a, c, rfl, hr⟩ := Reads.of_owns h.own
  exact ⟨a, c, rfl, h.ans⟩
theorem OwnAns.setn {N b o : Nat} {w : World} {v : Value} {l : List An} (h : OwnAns N w v l) (hb : b < N) (u : Value) : OwnAns N (w.setCell ⟨b, o, none⟩ u) v l :=
  ⟨own_set h.own (own_ne' h.own hb) u, h.inn.set hb u⟩
theorem ans_last (ms : List An) (m : An) {k : Nat} (hk : ms.length = k) : (ansC ms ++ anC m)[k * 9]? = some (.int .i64 m.p.key) ∧ (ansC ms ++ anC m)[k * 9 + 1]? = some (.bool m.p.yes) ∧ (ansC ms ++ anC m)[k * 9 + 2]? = some (.int .i64 m.p.v.key) ∧ (ansC ms ++ anC m)[k * 9 + 3]? = some (.int .i64 m.p.v.time) ∧ (ansC ms ++ anC m)[k * 9 + 4]? = some (.int .i64 m.p.v.site) ∧
    (ansC ms ++ anC m)[k * 9 + 5]? = some (.int .i64 m.p.v.val) ∧ (ansC ms ++ anC m)[k * 9 + 6]? = some (.int .i64 m.p.v.client) ∧ (ansC ms ++ anC m)[k * 9 + 7]? = some (.int .i64 m.p.v.call) ∧ (ansC ms ++ anC m)[k * 9 + 8]? = some (.slice m.a m.p.v.deps.length m.c) := by
  subst hk
  have h := ansC_get (ms ++ [m]) ms.length (by simp)
  have e : (ms ++ [m])[ms.length]'(by simp) = m := by simp
  rw [e, ansC_snoc] at h
  exact h
theorem infoAns : (Try.prog.info? 114).map (fun i => (i.zero, i.size, i.bytes)) = some (some (.agg #[.int .i64 0, .bool false, .int .i64 0, .int .i64 0, .int .i64 0, .int .i64 0, .int .i64 0, .int .i64 0, .slice none 0 0]), 9, 88) := by kernel_rfl

/-- An answer comes back, its dependencies in memory of the callee's own. -/
def GivesAns (x : Ap) (w : World) (e : Ending) (w' : World) : Prop := ∃ (a : Option Addr) (c : Nat), e = .returned (.agg #[.int .i64 x.key, .bool x.yes, .int .i64 x.v.key, .int .i64 x.v.time, .int .i64 x.v.site, .int .i64 x.v.val, .int .i64 x.v.client, .int .i64 x.v.call, .slice a x.v.deps.length c]) ∧ w'.ownsRow w.heap.size 32 3 (.slice a x.v.deps.length c) x.v.deps.length (dpsC x.v.deps) ∧ Below w.heap.size w w'
set_option maxRecDepth 100000 in
set_option maxHeartbeats 4000000 in
theorem toAnswer_laws (x : Ap) (a : Option Addr) (c : Nat) (w : World) (hd : Reads w a x.v.deps.length c (dpsC x.v.deps)) (hl : x.v.deps.length ≤ 1048577) :
    Calls Try.prog 127 #[.agg #[.int .i64 x.key, .bool x.yes, .int .i64 x.v.key, .int .i64 x.v.time, .int .i64 x.v.site, .int .i64 x.v.val, .int .i64 x.v.client, .int .i64 x.v.call, .slice a x.v.deps.length c]] w (GivesAns x w) := by
  have C1 := ((Blk.new w #[.int .i64 x.key, .bool x.yes, .int .i64 x.v.key, .int .i64 x.v.time, .int .i64 x.v.site, .int .i64 x.v.val, .int .i64 x.v.client, .int .i64 x.v.call, .slice a x.v.deps.length c] 144).alloc (.cells #[.int .i64 0, .bool false, .int .i64 0, .int .i64 0, .int .i64 0, .int .i64 0, .int .i64 0, .int .i64 0, .slice none 0 0] 114)).alloc (.cells #[.int .i64 x.key, .bool x.yes, .int .i64 0, .int .i64 0, .int .i64 0, .int .i64 0, .int .i64 0, .int .i64 0, .slice none 0 0] 114)
  have C2 := (Blk.new (w.alloc (.cells #[.int .i64 x.key, .bool x.yes, .int .i64 x.v.key, .int .i64 x.v.time, .int .i64 x.v.site, .int .i64 x.v.val, .int .i64 x.v.client, .int .i64 x.v.call, .slice a x.v.deps.length c] 144)) #[.int .i64 0, .bool false, .int .i64 0, .int .i64 0, .int .i64 0, .int .i64 0, .int .i64 0, .int .i64 0, .slice none 0 0] 114).alloc (.cells #[.int .i64 x.key, .bool x.yes, .int .i64 0, .int .i64 0, .int .i64 0, .int .i64 0, .int .i64 0, .int .i64 0, .slice none 0 0] 114)
  have C3 := Blk.new ((w.alloc (.cells #[.int .i64 x.key, .bool x.yes, .int .i64 x.v.key, .int .i64 x.v.time, .int .i64 x.v.site, .int .i64 x.v.val, .int .i64 x.v.client, .int .i64 x.v.call, .slice a x.v.deps.length c] 144)).alloc (.cells #[.int .i64 0, .bool false, .int .i64 0, .int .i64 0, .int .i64 0, .int .i64 0, .int .i64 0, .int .i64 0, .slice none 0 0] 114)) #[.int .i64 x.key, .bool x.yes, .int .i64 0, .int .i64 0, .int .i64 0, .int .i64 0, .int .i64 0, .int .i64 0, .slice none 0 0] 114
  simp only [World.size_alloc] at C2 C3
  have G := below_alloc (below_alloc (below_alloc (Below.refl _ w) (.cells #[.int .i64 x.key, .bool x.yes, .int .i64 x.v.key, .int .i64 x.v.time, .int .i64 x.v.site, .int .i64 x.v.val, .int .i64 x.v.client, .int .i64 x.v.call, .slice a x.v.deps.length c] 144)) (.cells #[.int .i64 0, .bool false, .int .i64 0, .int .i64 0, .int .i64 0, .int .i64 0, .int .i64 0, .int .i64 0, .slice none 0 0] 114)) (.cells #[.int .i64 x.key, .bool x.yes, .int .i64 0, .int .i64 0, .int .i64 0, .int .i64 0, .int .i64 0, .int .i64 0, .slice none 0 0] 114)
  have n1 : w.heap.size ≠ w.heap.size + 1 + 1 := by omega
  have n2 : w.heap.size + 1 ≠ w.heap.size + 1 + 1 := by omega
  have hle : w.heap.size ≤ w.heap.size + 1 + 1 := by omega
  go_enter Try.func127, Try.ntmps127
  go_wp2_with fail
  refine (toVer_laws x.v a c _ (hd.below G) hl).mono ?_
  rintro e w1 ⟨p, cc, rfl, own, hb1⟩
  have C1 := C1.below hb1 C1.lt
  have C2 := C2.below hb1 C2.lt
  have C3 := C3.below hb1 C3.lt
  have G := below_after G hb1
  have own := own_base own (show w.heap.size + 1 + 1 + 1 ≤ _ by simp)
  obtain ⟨q0, q1, q2, q3, q4, q5, q6, q7, q8, qf, ql⟩ := C1.nine
  obtain ⟨k0, k1, k2, k3, k4, k5, k6, k7, k8, kf, kl⟩ := C3.nine
  have C2 := (((((((C2.setb (b' := w.heap.size + 1 + 1) (o := 2) n2 (.int .i64 x.v.key)).setb (b' := w.heap.size + 1 + 1) (o := 3) n2 (.int .i64 x.v.time)).setb (b' := w.heap.size + 1 + 1) (o := 4) n2 (.int .i64 x.v.site)).setb (b' := w.heap.size + 1 + 1) (o := 5) n2 (.int .i64 x.v.val)).setb (b' := w.heap.size + 1 + 1) (o := 6) n2 (.int .i64 x.v.client)).setb (b' := w.heap.size + 1 + 1) (o := 7) n2 (.int .i64 x.v.call)).setb (b' := w.heap.size + 1 + 1) (o := 8) n2 (.slice p x.v.deps.length cc))
  have G := (below_setb (below_setb (below_setb (below_setb (below_setb (below_setb (below_setb G (b := w.heap.size + 1 + 1) (o := 2) hle (.int .i64 x.v.key)) (b := w.heap.size + 1 + 1) (o := 3) hle (.int .i64 x.v.time)) (b := w.heap.size + 1 + 1) (o := 4) hle (.int .i64 x.v.site)) (b := w.heap.size + 1 + 1) (o := 5) hle (.int .i64 x.v.val)) (b := w.heap.size + 1 + 1) (o := 6) hle (.int .i64 x.v.client)) (b := w.heap.size + 1 + 1) (o := 7) hle (.int .i64 x.v.call)) (b := w.heap.size + 1 + 1) (o := 8) hle (.slice p x.v.deps.length cc))
  have own := (own_set (own_set (own_set (own_set (own_set (own_set (own_set own (own_ne' own (b := w.heap.size + 1 + 1) (by omega)) (o := 2) (.int .i64 x.v.key)) (own_ne' own (b := w.heap.size + 1 + 1) (by omega)) (o := 3) (.int .i64 x.v.time)) (own_ne' own (b := w.heap.size + 1 + 1) (by omega)) (o := 4) (.int .i64 x.v.site)) (own_ne' own (b := w.heap.size + 1 + 1) (by omega)) (o := 5) (.int .i64 x.v.val)) (own_ne' own (b := w.heap.size + 1 + 1) (by omega)) (o := 6) (.int .i64 x.v.client)) (own_ne' own (b := w.heap.size + 1 + 1) (by omega)) (o := 7) (.int .i64 x.v.call)) (own_ne' own (b := w.heap.size + 1 + 1) (by omega)) (o := 8) (.slice p x.v.deps.length cc))
  have C3 := (((((((C3.nput2 (.int .i64 x.v.key)).nput3 (.int .i64 x.v.time)).nput4 (.int .i64 x.v.site)).nput5 (.int .i64 x.v.val)).nput6 (.int .i64 x.v.client)).nput7 (.int .i64 x.v.call)).nput8 (.slice p x.v.deps.length cc))
  have own := (own_set (own_set (own_set (own_set (own_set (own_set (own_set (own_set (own_set own (own_ne' own (b := w.heap.size + 1) (by omega)) (o := 0) (.int .i64 x.key)) (own_ne' own (b := w.heap.size + 1) (by omega)) (o := 1) (.bool x.yes)) (own_ne' own (b := w.heap.size + 1) (by omega)) (o := 2) (.int .i64 x.v.key)) (own_ne' own (b := w.heap.size + 1) (by omega)) (o := 3) (.int .i64 x.v.time)) (own_ne' own (b := w.heap.size + 1) (by omega)) (o := 4) (.int .i64 x.v.site)) (own_ne' own (b := w.heap.size + 1) (by omega)) (o := 5) (.int .i64 x.v.val)) (own_ne' own (b := w.heap.size + 1) (by omega)) (o := 6) (.int .i64 x.v.client)) (own_ne' own (b := w.heap.size + 1) (by omega)) (o := 7) (.int .i64 x.v.call)) (own_ne' own (b := w.heap.size + 1) (by omega)) (o := 8) (.slice p x.v.deps.length cc))
  have G := (below_setb (below_setb (below_setb (below_setb (below_setb (below_setb (below_setb (below_setb (below_setb G (b := w.heap.size + 1) (o := 0) (Nat.le_succ _) (.int .i64 x.key)) (b := w.heap.size + 1) (o := 1) (Nat.le_succ _) (.bool x.yes)) (b := w.heap.size + 1) (o := 2) (Nat.le_succ _) (.int .i64 x.v.key)) (b := w.heap.size + 1) (o := 3) (Nat.le_succ _) (.int .i64 x.v.time)) (b := w.heap.size + 1) (o := 4) (Nat.le_succ _) (.int .i64 x.v.site)) (b := w.heap.size + 1) (o := 5) (Nat.le_succ _) (.int .i64 x.v.val)) (b := w.heap.size + 1) (o := 6) (Nat.le_succ _) (.int .i64 x.v.client)) (b := w.heap.size + 1) (o := 7) (Nat.le_succ _) (.int .i64 x.v.call)) (b := w.heap.size + 1) (o := 8) (Nat.le_succ _) (.slice p x.v.deps.length cc))
  obtain ⟨y0, y1, y2, y3, y4, y5, y6, y7, y8, yf, yl⟩ := C2.nine
  obtain ⟨z0, z1, z2, z3, z4, z5, z6, z7, z8, zf, zl⟩ := C3.nine
  go_wp2
  exact bodyPost_ret (v := .agg #[.int .i64 x.key, .bool x.yes, .int .i64 x.v.key, .int .i64 x.v.time, .int .i64 x.v.site, .int .i64 x.v.val, .int .i64 x.v.client, .int .i64 x.v.call, .slice p x.v.deps.length cc]) (by simp [results, Try.results127, go_sem, *]) rfl ⟨p, cc, rfl, own_base own (by omega), G⟩

set_option maxHeartbeats 1000000 in
theorem szAnswer_laws (x : Ap) (left : Int) (a : Option Addr) (c : Nat) (w : World) (h0 : 0 ≤ left) (h1 : left ≤ 1048576) (hn : x.v.deps.length ≤ maxLen) :
    Calls Try.prog 126 #[.agg #[.int .i64 x.key, .bool x.yes, .int .i64 x.v.key, .int .i64 x.v.time, .int .i64 x.v.site, .int .i64 x.v.val, .int .i64 x.v.client, .int .i64 x.v.call, .slice a x.v.deps.length c], .int .i64 left] w fun e w' => e = .returned (.int .i64 (szR left x.v.deps.length)) ∧ Below w.heap.size w w' := by
  have BV := Blk.new w #[.int .i64 x.key, .bool x.yes, .int .i64 x.v.key, .int .i64 x.v.time, .int .i64 x.v.site, .int .i64 x.v.val, .int .i64 x.v.client, .int .i64 x.v.call, .slice a x.v.deps.length c] 144
  have G0 := below_box w (.cells #[.int .i64 x.key, .bool x.yes, .int .i64 x.v.key, .int .i64 x.v.time, .int .i64 x.v.site, .int .i64 x.v.val, .int .i64 x.v.client, .int .i64 x.v.call, .slice a x.v.deps.length c] 144)
  obtain ⟨p0, p1, p2, p3, p4, p5, p6, p7, p8, pf, pl⟩ := BV.nine
  go_enter Try.func126, Try.ntmps126
  go_wp2_with fail
  refine (szVer_laws x.v left a c _ h0 h1 hn).mono ?_
  rintro e w1 ⟨rfl, hb1⟩
  have G := below_after G0 hb1
  by_cases h : left < (x.v.deps.length : Int)
  · have hz : szR left x.v.deps.length = -1 := by rw [szR, if_pos h]
    go_wp2
    go_ret
    exact ⟨by rw [hz]; rfl, G⟩
  · have hz : 0 ≤ szR left x.v.deps.length := by rw [szR, if_neg h]; omega
    go_wp2
    go_ret
    exact ⟨rfl, G⟩

set_option maxHeartbeats 1000000 in
theorem eqAnswer_same (x : Ap) (a a' : Option Addr) (c c' : Nat) (w : World) (hr : Reads w a x.v.deps.length c (dpsC x.v.deps)) (hs : Reads w a' x.v.deps.length c' (dpsC x.v.deps)) :
    Calls Try.prog 132 #[.agg #[.int .i64 x.key, .bool x.yes, .int .i64 x.v.key, .int .i64 x.v.time, .int .i64 x.v.site, .int .i64 x.v.val, .int .i64 x.v.client, .int .i64 x.v.call, .slice a x.v.deps.length c], .agg #[.int .i64 x.key, .bool x.yes, .int .i64 x.v.key, .int .i64 x.v.time, .int .i64 x.v.site, .int .i64 x.v.val, .int .i64 x.v.client, .int .i64 x.v.call, .slice a' x.v.deps.length c']] w fun e w' => e = .returned (.bool true) ∧ Below w.heap.size w w' := by
  have G := below_box2 w (.cells #[.int .i64 x.key, .bool x.yes, .int .i64 x.v.key, .int .i64 x.v.time, .int .i64 x.v.site, .int .i64 x.v.val, .int .i64 x.v.client, .int .i64 x.v.call, .slice a x.v.deps.length c] 114) (.cells #[.int .i64 x.key, .bool x.yes, .int .i64 x.v.key, .int .i64 x.v.time, .int .i64 x.v.site, .int .i64 x.v.val, .int .i64 x.v.client, .int .i64 x.v.call, .slice a' x.v.deps.length c'] 114)
  have C1 := (Blk.new w #[.int .i64 x.key, .bool x.yes, .int .i64 x.v.key, .int .i64 x.v.time, .int .i64 x.v.site, .int .i64 x.v.val, .int .i64 x.v.client, .int .i64 x.v.call, .slice a x.v.deps.length c] 114).alloc (.cells #[.int .i64 x.key, .bool x.yes, .int .i64 x.v.key, .int .i64 x.v.time, .int .i64 x.v.site, .int .i64 x.v.val, .int .i64 x.v.client, .int .i64 x.v.call, .slice a' x.v.deps.length c'] 114)
  have C2 := Blk.new (w.alloc (.cells #[.int .i64 x.key, .bool x.yes, .int .i64 x.v.key, .int .i64 x.v.time, .int .i64 x.v.site, .int .i64 x.v.val, .int .i64 x.v.client, .int .i64 x.v.call, .slice a x.v.deps.length c] 114)) #[.int .i64 x.key, .bool x.yes, .int .i64 x.v.key, .int .i64 x.v.time, .int .i64 x.v.site, .int .i64 x.v.val, .int .i64 x.v.client, .int .i64 x.v.call, .slice a' x.v.deps.length c'] 114
  simp only [World.size_alloc] at C2
  have hyy : (x.yes != x.yes) = false := by cases x.yes <;> rfl
  obtain ⟨x0, x1, x2, x3, x4, x5, x6, x7, x8, xf, xl⟩ := C1.nine
  obtain ⟨y0, y1, y2, y3, y4, y5, y6, y7, y8, yf, yl⟩ := C2.nine
  go_enter Try.func132, Try.ntmps132
  go_wp2_with fail
  refine (eqVer_same x.v a a' c c' _ (hr.below G) (hs.below G)).mono ?_
  rintro e w1 ⟨rfl, hb1⟩
  go_wp2
  go_ret
  exact ⟨rfl, below_after G hb1⟩

set_option maxHeartbeats 2000000 in
theorem szAnswerS_laws (l : List An) (left : Int) (a : Option Addr) (c : Nat) (w : World) (hvs : Ans w a c l) (h0 : 0 ≤ left) (h1 : left ≤ 1048576) :
    Calls Try.prog 87 #[.slice a l.length c, .int .i64 left] w fun e w' => e = .returned (.int .i64 (szR left (sizeA l))) ∧ Below w.heap.size w w' := by
  have hn : l.length ≤ maxLen := by obtain ⟨h1, h2, _⟩ := hvs.rd; omega
  unfold maxLen at hn
  by_cases h : left < (l.length : Int)
  · have h' : left - (l.length : Int) < 0 := by omega
    have HZ : Hid (szR left (sizeA l) = -1) := by show _ = _; rw [szR, if_pos (by unfold sizeA; omega)]
    go_enter Try.func87, Try.ntmps87
    go_wp2
    go_ret
    exact ⟨by rw [HZ.out]; rfl, Below.refl _ _⟩
  · have h' : (0 : Int) ≤ left - (l.length : Int) := by omega
    go_enter Try.func87, Try.ntmps87
    go_wp2
    go_loopw [1, 5] (fun t i wr => ∃ k : Nat, ∃ q : Int, k ≤ l.length ∧ i = .int .i64 k ∧ t = .int .i64 q ∧ q = left - (l.length : Int) - (sumA (l.take k) : Int) ∧ 0 ≤ q ∧ Below w.heap.size w wr) (fun _ i _ => l.length - (intOf i).toNat)
    case atStart => exact ⟨0, _, Nat.zero_le _, rfl, rfl, by simp [sumA], h', Below.refl _ _⟩
    case round =>
      obtain ⟨k, q, hk, rfl, rfl, hq, hq0, hBw⟩ := hrel
      by_cases hlt : k < l.length
      · have hv := hvs.below hBw
        have hi0 : (0 : Int) ≤ (k : Int) := by omega
        have hi1 : (k : Int) < (l.length : Int) := by omega
        have hsd := sumA_take l k hlt
        have hsl := sumA_take_le l (k + 1)
        have hcap : l[k].p.v.deps.length ≤ maxLen := by obtain ⟨h1, h2, _⟩ := hv.get k hlt; omega
        have hq1 : q ≤ 1048576 := by omega
        obtain ⟨b, off, hab, hbl, c0, c1, c2, c3, c4, c5, c6, c7, c8⟩ := hv.at_ k hlt
        subst hab
        have HQ := Lib.hid hq
        clear hq
        by_cases hs : q < (l[k].p.v.deps.length : Int)
        · have hz : szR q l[k].p.v.deps.length = -1 := by rw [szR, if_pos hs]
          have HZ : Hid (szR left (sizeA l) = -1) := by have := HQ.out; show _ = _; rw [szR, if_pos (by unfold sizeA; omega)]
          have hcall := szAnswer_laws l[k].p q l[k].a l[k].c wr hq0 hq1 hcap
          rw [hz] at hcall
          clear hz hsd hsl hcap hs
          go_wp2_with fail
          refine hcall.mono ?_
          rintro e w1 ⟨rfl, hb1⟩
          go_wp2
          go_ret
          exact ⟨by rw [HZ.out]; rfl, below_after hBw hb1⟩
        · have hz : szR q l[k].p.v.deps.length = q - (l[k].p.v.deps.length : Int) := by rw [szR, if_neg hs]
          have hge : 0 ≤ q - (l[k].p.v.deps.length : Int) := by omega
          have HN : Hid (q - (l[k].p.v.deps.length : Int) = left - (l.length : Int) - (sumA (l.take (k + 1)) : Int)) := by have := HQ.out; show _ = _; omega
          have hcall := szAnswer_laws l[k].p q l[k].a l[k].c wr hq0 hq1 hcap
          rw [hz] at hcall
          clear hz hsd hsl hcap hs
          go_wp2_with fail
          refine hcall.mono ?_
          rintro e w1 ⟨rfl, hb1⟩
          go_wp2
          go_roundw
          case rel => exact ⟨k + 1, _, by omega, by go_num, rfl, HN.out, hge, below_after hBw hb1⟩
          case measure => simp [intOf]; omega
      · obtain rfl : k = l.length := by omega
        rw [List.take_length] at hq
        have HZ : Hid (szR left (sizeA l) = q) := by show _ = _; rw [szR, if_neg (by unfold sizeA; omega), hq]; unfold sizeA; omega
        clear hq
        go_wp2
        go_ret
        exact ⟨by rw [HZ.out]; rfl, hBw⟩


/-- A list of answers in memory of the callee's own, that reads as l does. -/
def ToAns (l : List Ap) (w : World) (e : Ending) (w' : World) : Prop := ∃ v ms, e = .returned v ∧ ps ms = l ∧ OwnAns w.heap.size w' v ms ∧ Below w.heap.size w w'
set_option maxRecDepth 100000 in
set_option maxHeartbeats 4000000 in
theorem toAnswerS_laws (l : List An) (a : Option Addr) (c : Nat) (w : World) (hvs : Ans w a c l) (hf : FewA l) :
    Calls Try.prog 94 #[.slice a l.length c] w (ToAns (ps l) w) := by
  obtain ⟨i0, hi, hz0, hz1, hz2⟩ := info_parts infoAns
  have hf1 := hf.1
  have hmk := fun W => run_make_rowN (P := Try.prog) 71 114 i0 _ Try.underlying71 hi hz0 .i64 .i64 l.length l.length (Nat.le_refl _) (by rw [hz2]; omega) (by omega) W
  rw [hz1] at hmk
  go_enter Try.func94, Try.ntmps94
  go_wp2
  have r0 := row_made w (ansC []) #[.int .i64 0, .bool false, .int .i64 0, .int .i64 0, .int .i64 0, .int .i64 0, .int .i64 0, .int .i64 0, .slice none 0 0] (l.length * 9) 114
  have hb0 := below_box w (.cells (madeCells #[.int .i64 0, .bool false, .int .i64 0, .int .i64 0, .int .i64 0, .int .i64 0, .int .i64 0, .int .i64 0, .slice none 0 0] (l.length * 9)) 114)
  go_loopw [4] (fun i wr => ∃ k : Nat, ∃ ms : List An, k ≤ l.length ∧ ms.length = k ∧ i = .int .i64 k ∧ ps ms = (ps l).take k ∧ OwnIn (w.heap.size + 1) wr (ms.map anV) ∧ wr.rowIs w.heap.size 114 (l.length * 9) (fillF (ansC ms) #[.int .i64 0, .bool false, .int .i64 0, .int .i64 0, .int .i64 0, .int .i64 0, .int .i64 0, .int .i64 0, .slice none 0 0] (k * 9)) ∧ Below w.heap.size w wr) (fun i _ => l.length - (intOf i).toNat)
  case atStart => exact ⟨0, [], Nat.zero_le _, rfl, rfl, rfl, OwnIn.nil _ _, by simpa using r0, hb0⟩
  case round =>
    obtain ⟨k, ms, hk, hml, rfl, hvm, hin, hrow, hBw⟩ := hrel
    have HM := Lib.hid hml
    have HV := Lib.hid hvm
    clear hvm
    have hrl := hrow.lt
    by_cases hlt : k < l.length
    · have hv := hvs.below hBw
      have hi0 : (0 : Int) ≤ (k : Int) := by omega
      have hi1 : (k : Int) < (l.length : Int) := by omega
      obtain ⟨b, off, hab, hbl, c0, c1, c2, c3, c4, c5, c6, c7, c8⟩ := hv.at_ k hlt
      subst hab
      clear hml
      go_wp2_with fail
      refine (toAnswer_laws l[k].p l[k].a l[k].c _ (hv.get k hlt) (hf.get k hlt)).mono ?_
      rintro e w2 ⟨p, cc, rfl, own, hb2⟩
      have hbw := below_after hBw hb2
      have hlts := hin.lt
      have hin := (hin.below hb2).snoc (m := ⟨l[k].p.v, p, cc⟩) own (by omega) (fun x hx b hb => (hlts x hx b hb).2)
      have hrow2 := hrow.of_block (hb2.block _ hrl)
      have hrow3 := fill_app (ys := anC ⟨l[k].p, p, cc⟩) hrow2 (by rw [ansC_len, HM.out])
      obtain ⟨g0, g1, g2, g3, g4, g5, g6, g7, g8⟩ := ans_last ms ⟨l[k].p, p, cc⟩ HM.out
      have hrow4 := row_fill1 (row_fill1 (row_fill1 (row_fill1 (row_fill1 (row_fill1 (row_fill1 (row_fill1 (row_fill1 hrow3 g0) g1) g2) g3) g4) g5) g6) g7) g8
      have HE := Lib.hid (ps_get l k hlt)
      have HVN : Hid (ps (ms ++ [⟨l[k].p, p, cc⟩]) = (ps l).take (k + 1)) := by
        show _ = _
        rw [ps_snoc, HV.out, List.take_succ_eq_append_getElem (by rw [ps_len]; exact hlt), HE.out]
      have HLN : Hid ((ms ++ [(⟨l[k].p, p, cc⟩ : An)]).length = k + 1) := by show _ = _; rw [List.length_append, HM.out]; rfl
      clear g0 g1 g2 g3 g4 g5 g6 g7 g8 hrow hrow3 hlts c0 c1 c2 c3 c4 c5 c6 c7 c8
      have f0 := fun o => hrow2.frozen o
      have hx0 := hrow2.cell (i := k * 9) (by omega)
      have hx1 := hrow2.cell (i := k * 9 + 1) (by omega)
      have hx2 := hrow2.cell (i := k * 9 + 2) (by omega)
      have hx3 := hrow2.cell (i := k * 9 + 3) (by omega)
      have hx4 := hrow2.cell (i := k * 9 + 4) (by omega)
      have hx5 := hrow2.cell (i := k * 9 + 5) (by omega)
      have hx6 := hrow2.cell (i := k * 9 + 6) (by omega)
      have hx7 := hrow2.cell (i := k * 9 + 7) (by omega)
      have hx8 := hrow2.cell (i := k * 9 + 8) (by omega)
      go_wp2
      go_roundw
      case rel =>
        refine ⟨k + 1, ms ++ [⟨l[k].p, p, cc⟩], by omega, HLN.out, by go_num, HVN.out, by rw [List.map_append]; exact (OwnIn.set (OwnIn.set (OwnIn.set (OwnIn.set (OwnIn.set (OwnIn.set (OwnIn.set (OwnIn.set (OwnIn.set hin (Nat.lt_succ_self _) _) (Nat.lt_succ_self _) _) (Nat.lt_succ_self _) _) (Nat.lt_succ_self _) _) (Nat.lt_succ_self _) _) (Nat.lt_succ_self _) _) (Nat.lt_succ_self _) _) (Nat.lt_succ_self _) _) (Nat.lt_succ_self _) _), ?_, by exact (below_setb (below_setb (below_setb (below_setb (below_setb (below_setb (below_setb (below_setb (below_setb hbw (Nat.le_refl _) _) (Nat.le_refl _) _) (Nat.le_refl _) _) (Nat.le_refl _) _) (Nat.le_refl _) _) (Nat.le_refl _) _) (Nat.le_refl _) _) (Nat.le_refl _) _) (Nat.le_refl _) _)⟩
        rw [show (k + 1) * 9 = k * 9 + 1 + 1 + 1 + 1 + 1 + 1 + 1 + 1 + 1 from by omega, ansC_snoc]
        exact hrow4
      case measure => simp [intOf]; omega
    · obtain rfl : k = l.length := by omega
      have HV : Hid (ps ms = ps l) := by have := HV.out; rwa [← ps_len l, List.take_length] at this
      have ho := row_owns (B := w.heap.size) hrow (by rw [ansC_len, hml]) (Nat.le_refl _) (by unfold maxLen; omega)
      have HO : Hid (OwnAns w.heap.size wr (.slice (some ⟨w.heap.size, 0, none⟩) l.length l.length) ms) := ⟨by rw [hml]; exact ho, hin.base (Nat.le_succ _)⟩
      clear ho hml hrow
      go_wp2
      go_ret
      exact ⟨_, ms, rfl, HV.out, HO.out, hBw⟩

set_option maxHeartbeats 2000000 in
theorem eqAnswerS_same (l l' : List An) (a a' : Option Addr) (c c' : Nat) (w : World) (hvs : Ans w a c l) (hvt : Ans w a' c' l') (he : ps l' = ps l) :
    Calls Try.prog 100 #[.slice a l.length c, .slice a' l'.length c'] w fun e w' => e = .returned (.bool true) ∧ Below w.heap.size w w' := by
  have hn := hvs.len
  have hlen : l'.length = l.length := by rw [← ps_len l', he, ps_len]
  have HE : ∀ k (h : k < l.length) (h' : k < l'.length), l'[k].p = l[k].p := fun k h h' => by
    rw [← ps_get l' k h', ← ps_get l k h]; congr 1
  have HEE := Lib.hid HE
  clear HE
  have HL := Lib.hid hlen
  have hleb : l'.length ≤ l.length := by omega
  have hlea : l.length ≤ l'.length := by omega
  rw [hlen]
  clear hlen he
  go_enter Try.func100, Try.ntmps100
  go_wp2
  go_loopw [5] (fun i wr => ∃ k : Nat, k ≤ l.length ∧ i = .int .i64 k ∧ Below w.heap.size w wr) (fun i _ => l.length - (intOf i).toNat)
  case atStart => exact ⟨0, Nat.zero_le _, rfl, Below.refl _ _⟩
  case round =>
    obtain ⟨k, hk, rfl, hb⟩ := hrel
    by_cases hlt : k < l.length
    · have hlt' : k < l'.length := by omega
      have hv := hvs.below hb
      have hu := hvt.below hb
      have hev := HEE.out k hlt hlt'
      obtain ⟨b, off, hab, hbl, c0, c1, c2, c3, c4, c5, c6, c7, c8⟩ := hv.at_ k hlt
      obtain ⟨b', off', hab', hbl', d0, d1, d2, d3, d4, d5, d6, d7, d8⟩ := hu.at_ k hlt'
      subst hab
      subst hab'
      have hr := hv.get k hlt
      have hs := hu.get k hlt'
      rw [hev] at d0 d1 d2 d3 d4 d5 d6 d7 d8 hs
      have hi0 : (0 : Int) ≤ (k : Int) := by omega
      have hi1 : (k : Int) < (l.length : Int) := by omega
      clear hev
      go_wp2
      refine region_over (by kernel_rfl) (by kernel_rfl) ?_
      repeat (go_big_quiet_step ((go_at_call 132; exact quiet_over (eqAnswer_same l[k].p l[k].a l'[k].a l[k].c l'[k].c _ (hr.below (over_below _ _)) (hs.below (over_below _ _))))))
      refine wpQuiet_nil ?_
      intro w1 hb1
      have hbw := below_after hb hb1
      go_wp2
      go_roundw
      case rel => exact ⟨k + 1, by omega, by go_num, hbw⟩
      case measure => simp [intOf]; omega
    · obtain rfl : k = l.length := by omega
      go_wp2
      go_ret
      exact ⟨rfl, hb⟩


def mkC (x : Mc) (A : List An) (p0 p1 pa p2 : Option Addr) (c0 c1 ca c2 : Nat) : Mc := { x with got := A, ka := p0, kc := c0, xa := p1, xc := c1, ga := pa, gc := ca, na := p2, nc := c2 }
/-- A call whose lists lie in memory of one's own, no two in one block. -/
structure OwnCall (N : Nat) (w : World) (x : Mc) : Prop where
  ks : w.ownsRow N 3 1 (.slice x.ka x.keys.length x.kc) x.keys.length (intsC x.keys)
  cx : w.ownsRow N 32 3 (.slice x.xa x.ctx.length x.xc) x.ctx.length (dpsC x.ctx)
  gt : OwnAns N w (.slice x.ga x.got.length x.gc) x.got
  nd : w.ownsRow N 32 3 (.slice x.na x.needs.length x.nc) x.needs.length (dpsC x.needs)
  cg : ∀ i, (Value.slice x.xa x.ctx.length x.xc).ownBlock = some i → ∀ m ∈ x.got.map anV, blkOf m ≠ some i
  cn : ∀ i, (Value.slice x.xa x.ctx.length x.xc).ownBlock = some i → (Value.slice x.na x.needs.length x.nc).ownBlock ≠ some i
  gn : ∀ i, ∀ m ∈ x.got.map anV, blkOf m = some i → (Value.slice x.na x.needs.length x.nc).ownBlock ≠ some i
theorem OwnCall.in_ {N : Nat} {w : World} {x : Mc} (h : OwnCall N w x) : CallIn w x := ⟨Reads.own h.ks, Reads.own h.cx, h.gt.ans, Reads.own h.nd⟩
theorem OwnCall.below {N : Nat} {w w' : World} {x : Mc} (h : OwnCall N w x) (hb : Below w.heap.size w w') : OwnCall N w' x := ⟨own_below h.ks hb, own_below h.cx hb, h.gt.below hb, own_below h.nd hb, h.cg, h.cn, h.gn⟩
/-- A call comes back: the same, its lists in other places. -/
def ToCall (x : Mc) (w : World) (e : Ending) (w' : World) : Prop := ∃ (A : List An) (p0 p1 pa p2 : Option Addr) (c0 c1 ca c2 : Nat), e = .returned (.agg #[.int .i64 x.client, .int .i64 x.num, .int .i64 x.kind, .slice p0 x.keys.length c0, .int .i64 x.val, .slice p1 x.ctx.length c1, .int .i64 x.beg, .int .i64 x.fin, .bool x.over, .int .i64 x.time, .int .i64 x.site, .slice pa A.length ca, .slice p2 x.needs.length c2]) ∧ ps A = ps x.got ∧ OwnCall w.heap.size w' (mkC x A p0 p1 pa p2 c0 c1 ca c2) ∧ Below w.heap.size w w'
set_option maxRecDepth 100000 in
set_option maxHeartbeats 8000000 in
theorem toCall_laws (x : Mc) (w : World) (hin : CallIn w x) (hf : FewC x) :
    Calls Try.prog 36 #[.agg #[.int .i64 x.client, .int .i64 x.num, .int .i64 x.kind, .slice x.ka x.keys.length x.kc, .int .i64 x.val, .slice x.xa x.ctx.length x.xc, .int .i64 x.beg, .int .i64 x.fin, .bool x.over, .int .i64 x.time, .int .i64 x.site, .slice x.ga x.got.length x.gc, .slice x.na x.needs.length x.nc]] w (ToCall x w) := by
  have C1 := ((Blk.new w #[.int .i64 x.client, .int .i64 x.num, .int .i64 x.kind, .slice x.ka x.keys.length x.kc, .int .i64 x.val, .slice x.xa x.ctx.length x.xc, .int .i64 x.beg, .int .i64 x.fin, .bool x.over, .int .i64 x.time, .int .i64 x.site, .slice x.ga x.got.length x.gc, .slice x.na x.needs.length x.nc] 68).alloc (.cells #[.int .i64 0, .int .i64 0, .int .i64 0, .slice none 0 0, .int .i64 0, .slice none 0 0, .int .i64 0, .int .i64 0, .bool false, .int .i64 0, .int .i64 0, .slice none 0 0, .slice none 0 0] 73)).alloc (.cells #[.int .i64 x.client, .int .i64 x.num, .int .i64 x.kind, .slice none 0 0, .int .i64 0, .slice none 0 0, .int .i64 0, .int .i64 0, .bool false, .int .i64 0, .int .i64 0, .slice none 0 0, .slice none 0 0] 73)
  have C2 := (Blk.new (w.alloc (.cells #[.int .i64 x.client, .int .i64 x.num, .int .i64 x.kind, .slice x.ka x.keys.length x.kc, .int .i64 x.val, .slice x.xa x.ctx.length x.xc, .int .i64 x.beg, .int .i64 x.fin, .bool x.over, .int .i64 x.time, .int .i64 x.site, .slice x.ga x.got.length x.gc, .slice x.na x.needs.length x.nc] 68)) #[.int .i64 0, .int .i64 0, .int .i64 0, .slice none 0 0, .int .i64 0, .slice none 0 0, .int .i64 0, .int .i64 0, .bool false, .int .i64 0, .int .i64 0, .slice none 0 0, .slice none 0 0] 73).alloc (.cells #[.int .i64 x.client, .int .i64 x.num, .int .i64 x.kind, .slice none 0 0, .int .i64 0, .slice none 0 0, .int .i64 0, .int .i64 0, .bool false, .int .i64 0, .int .i64 0, .slice none 0 0, .slice none 0 0] 73)
  have C3 := Blk.new ((w.alloc (.cells #[.int .i64 x.client, .int .i64 x.num, .int .i64 x.kind, .slice x.ka x.keys.length x.kc, .int .i64 x.val, .slice x.xa x.ctx.length x.xc, .int .i64 x.beg, .int .i64 x.fin, .bool x.over, .int .i64 x.time, .int .i64 x.site, .slice x.ga x.got.length x.gc, .slice x.na x.needs.length x.nc] 68)).alloc (.cells #[.int .i64 0, .int .i64 0, .int .i64 0, .slice none 0 0, .int .i64 0, .slice none 0 0, .int .i64 0, .int .i64 0, .bool false, .int .i64 0, .int .i64 0, .slice none 0 0, .slice none 0 0] 73)) #[.int .i64 x.client, .int .i64 x.num, .int .i64 x.kind, .slice none 0 0, .int .i64 0, .slice none 0 0, .int .i64 0, .int .i64 0, .bool false, .int .i64 0, .int .i64 0, .slice none 0 0, .slice none 0 0] 73
  simp only [World.size_alloc] at C2 C3
  have G := below_alloc (below_alloc (below_alloc (Below.refl _ w) (.cells #[.int .i64 x.client, .int .i64 x.num, .int .i64 x.kind, .slice x.ka x.keys.length x.kc, .int .i64 x.val, .slice x.xa x.ctx.length x.xc, .int .i64 x.beg, .int .i64 x.fin, .bool x.over, .int .i64 x.time, .int .i64 x.site, .slice x.ga x.got.length x.gc, .slice x.na x.needs.length x.nc] 68)) (.cells #[.int .i64 0, .int .i64 0, .int .i64 0, .slice none 0 0, .int .i64 0, .slice none 0 0, .int .i64 0, .int .i64 0, .bool false, .int .i64 0, .int .i64 0, .slice none 0 0, .slice none 0 0] 73)) (.cells #[.int .i64 x.client, .int .i64 x.num, .int .i64 x.kind, .slice none 0 0, .int .i64 0, .slice none 0 0, .int .i64 0, .int .i64 0, .bool false, .int .i64 0, .int .i64 0, .slice none 0 0, .slice none 0 0] 73)
  have n1 : w.heap.size ≠ w.heap.size + 1 + 1 := by omega
  have n2 : w.heap.size + 1 ≠ w.heap.size + 1 + 1 := by omega
  have n3 : w.heap.size + 1 + 1 ≠ w.heap.size + 1 := by omega
  have hle : w.heap.size ≤ w.heap.size + 1 + 1 := by omega
  go_enter Try.func36, Try.ntmps36
  go_wp2_with fail
  refine (toIntS_laws x.keys x.ka x.kc _ (hin.ks.below G) hf.ks).mono ?_
  rintro e w1 ⟨u1, rfl, o0, hb1⟩
  obtain ⟨p0, c0, rfl, rd1⟩ := Reads.of_owns o0
  have o0 := own_base o0 (show w.heap.size + 1 + 1 + 1 ≤ _ by have := C3.lt; simp at this ⊢; try omega)
  have C1 := C1.below hb1 C1.lt
  have C2 := C2.below hb1 C2.lt
  have C3 := C3.below hb1 C3.lt
  have G := below_after G hb1
  obtain ⟨q0, q1, q2, q3, q4, q5, q6, q7, q8, q9, q10, q11, q12, qf, ql⟩ := C1.call
  obtain ⟨k0, k1, k2, k3, k4, k5, k6, k7, k8, k9, k10, k11, k12, kf, kl⟩ := C3.call
  have C1 := ((C1.setb (b' := w.heap.size + 1 + 1) (o := 3) n1 (.slice p0 x.keys.length c0)).setb (b' := w.heap.size + 1 + 1) (o := 4) n1 (.int .i64 x.val))
  have C2 := ((C2.setb (b' := w.heap.size + 1 + 1) (o := 3) n2 (.slice p0 x.keys.length c0)).setb (b' := w.heap.size + 1 + 1) (o := 4) n2 (.int .i64 x.val))
  have G := (below_setb (below_setb G (b := w.heap.size + 1 + 1) (o := 3) hle (.slice p0 x.keys.length c0)) (b := w.heap.size + 1 + 1) (o := 4) hle (.int .i64 x.val))
  have o0 := (own_set (own_set o0 (own_ne' o0 (b := w.heap.size + 1 + 1) (by omega)) (o := 3) (.slice p0 x.keys.length c0)) (own_ne' o0 (b := w.heap.size + 1 + 1) (by omega)) (o := 4) (.int .i64 x.val))
  have C3 := ((C3.cput3 (.slice p0 x.keys.length c0)).cput4 (.int .i64 x.val))
  go_wp2_with fail
  refine (toDepS_laws x.ctx x.xa x.xc _ (hin.cx.below G) hf.cx).mono ?_
  rintro e w2 ⟨u2, rfl, o1, hb2⟩
  obtain ⟨p1, c1, rfl, rd2⟩ := Reads.of_owns o1
  have o1 := own_base o1 (show w.heap.size + 1 + 1 + 1 ≤ _ by have := C3.lt; simp at this ⊢; try omega)
  have C1 := C1.below hb2 C1.lt
  have C2 := C2.below hb2 C2.lt
  have C3 := C3.below hb2 C3.lt
  have G := below_after G hb2
  have o0 := own_below o0 hb2
  clear q0 q1 q2 q3 q4 q5 q6 q7 q8 q9 q10 q11 q12 qf ql k0 k1 k2 k3 k4 k5 k6 k7 k8 k9 k10 k11 k12 kf kl
  obtain ⟨q0, q1, q2, q3, q4, q5, q6, q7, q8, q9, q10, q11, q12, qf, ql⟩ := C1.call
  obtain ⟨k0, k1, k2, k3, k4, k5, k6, k7, k8, k9, k10, k11, k12, kf, kl⟩ := C3.call
  have C1 := ((((C1.setb (b' := w.heap.size + 1 + 1) (o := 5) n1 (.slice p1 x.ctx.length c1)).setb (b' := w.heap.size + 1 + 1) (o := 6) n1 (.int .i64 x.beg)).setb (b' := w.heap.size + 1 + 1) (o := 7) n1 (.int .i64 x.fin)).setb (b' := w.heap.size + 1 + 1) (o := 8) n1 (.bool x.over))
  have C2 := ((((C2.setb (b' := w.heap.size + 1 + 1) (o := 5) n2 (.slice p1 x.ctx.length c1)).setb (b' := w.heap.size + 1 + 1) (o := 6) n2 (.int .i64 x.beg)).setb (b' := w.heap.size + 1 + 1) (o := 7) n2 (.int .i64 x.fin)).setb (b' := w.heap.size + 1 + 1) (o := 8) n2 (.bool x.over))
  have G := (below_setb (below_setb (below_setb (below_setb G (b := w.heap.size + 1 + 1) (o := 5) hle (.slice p1 x.ctx.length c1)) (b := w.heap.size + 1 + 1) (o := 6) hle (.int .i64 x.beg)) (b := w.heap.size + 1 + 1) (o := 7) hle (.int .i64 x.fin)) (b := w.heap.size + 1 + 1) (o := 8) hle (.bool x.over))
  have o0 := (own_set (own_set (own_set (own_set o0 (own_ne' o0 (b := w.heap.size + 1 + 1) (by omega)) (o := 5) (.slice p1 x.ctx.length c1)) (own_ne' o0 (b := w.heap.size + 1 + 1) (by omega)) (o := 6) (.int .i64 x.beg)) (own_ne' o0 (b := w.heap.size + 1 + 1) (by omega)) (o := 7) (.int .i64 x.fin)) (own_ne' o0 (b := w.heap.size + 1 + 1) (by omega)) (o := 8) (.bool x.over))
  have o1 := (own_set (own_set (own_set (own_set o1 (own_ne' o1 (b := w.heap.size + 1 + 1) (by omega)) (o := 5) (.slice p1 x.ctx.length c1)) (own_ne' o1 (b := w.heap.size + 1 + 1) (by omega)) (o := 6) (.int .i64 x.beg)) (own_ne' o1 (b := w.heap.size + 1 + 1) (by omega)) (o := 7) (.int .i64 x.fin)) (own_ne' o1 (b := w.heap.size + 1 + 1) (by omega)) (o := 8) (.bool x.over))
  have C3 := ((((C3.cput5 (.slice p1 x.ctx.length c1)).cput6 (.int .i64 x.beg)).cput7 (.int .i64 x.fin)).cput8 (.bool x.over))
  go_wp2_with fail
  refine (toStamp_laws _ _ _).mono ?_
  rintro e w3 ⟨rfl, hb3⟩
  have C1 := C1.below hb3 C1.lt
  have C2 := C2.below hb3 C2.lt
  have C3 := C3.below hb3 C3.lt
  have G := below_after G hb3
  have o0 := own_below o0 hb3
  have o1 := own_below o1 hb3
  clear q0 q1 q2 q3 q4 q5 q6 q7 q8 q9 q10 q11 q12 qf ql k0 k1 k2 k3 k4 k5 k6 k7 k8 k9 k10 k11 k12 kf kl
  obtain ⟨q0, q1, q2, q3, q4, q5, q6, q7, q8, q9, q10, q11, q12, qf, ql⟩ := C1.call
  obtain ⟨k0, k1, k2, k3, k4, k5, k6, k7, k8, k9, k10, k11, k12, kf, kl⟩ := C3.call
  have C1 := ((C1.setb (b' := w.heap.size + 1 + 1) (o := 9) n1 (.int .i64 x.time)).setb (b' := w.heap.size + 1 + 1) (o := 10) n1 (.int .i64 x.site))
  have C2 := ((C2.setb (b' := w.heap.size + 1 + 1) (o := 9) n2 (.int .i64 x.time)).setb (b' := w.heap.size + 1 + 1) (o := 10) n2 (.int .i64 x.site))
  have G := (below_setb (below_setb G (b := w.heap.size + 1 + 1) (o := 9) hle (.int .i64 x.time)) (b := w.heap.size + 1 + 1) (o := 10) hle (.int .i64 x.site))
  have o0 := (own_set (own_set o0 (own_ne' o0 (b := w.heap.size + 1 + 1) (by omega)) (o := 9) (.int .i64 x.time)) (own_ne' o0 (b := w.heap.size + 1 + 1) (by omega)) (o := 10) (.int .i64 x.site))
  have o1 := (own_set (own_set o1 (own_ne' o1 (b := w.heap.size + 1 + 1) (by omega)) (o := 9) (.int .i64 x.time)) (own_ne' o1 (b := w.heap.size + 1 + 1) (by omega)) (o := 10) (.int .i64 x.site))
  have C3 := ((C3.cput9 (.int .i64 x.time)).cput10 (.int .i64 x.site))
  go_wp2_with fail
  refine (toAnswerS_laws x.got x.ga x.gc _ (hin.gt.below G) hf.gt).mono ?_
  rintro e w4 ⟨u4, A, rfl, hA, v1, hb4⟩
  obtain ⟨pa, ca, rfl, vv4⟩ := v1.open_
  have cg : ∀ i, (Value.slice p1 x.ctx.length c1).ownBlock = some i → ∀ m ∈ A.map anV, blkOf m ≠ some i := fun i hi m hm he => by have h1 := (o1.lt i hi).2; have h2 := (v1.inn.lt m hm i he).1; omega
  have hA := Lib.hid hA
  have v1 := v1.base (show w.heap.size + 1 + 1 + 1 ≤ _ by have := C3.lt; omega)
  have C1 := C1.below hb4 C1.lt
  have C2 := C2.below hb4 C2.lt
  have C3 := C3.below hb4 C3.lt
  have G := below_after G hb4
  have o0 := own_below o0 hb4
  have o1 := own_below o1 hb4
  clear q0 q1 q2 q3 q4 q5 q6 q7 q8 q9 q10 q11 q12 qf ql k0 k1 k2 k3 k4 k5 k6 k7 k8 k9 k10 k11 k12 kf kl
  obtain ⟨q0, q1, q2, q3, q4, q5, q6, q7, q8, q9, q10, q11, q12, qf, ql⟩ := C1.call
  obtain ⟨k0, k1, k2, k3, k4, k5, k6, k7, k8, k9, k10, k11, k12, kf, kl⟩ := C3.call
  have C1 := (C1.setb (b' := w.heap.size + 1 + 1) (o := 11) n1 (.slice pa A.length ca))
  have C2 := (C2.setb (b' := w.heap.size + 1 + 1) (o := 11) n2 (.slice pa A.length ca))
  have G := (below_setb G (b := w.heap.size + 1 + 1) (o := 11) hle (.slice pa A.length ca))
  have o0 := (own_set o0 (own_ne' o0 (b := w.heap.size + 1 + 1) (by omega)) (o := 11) (.slice pa A.length ca))
  have o1 := (own_set o1 (own_ne' o1 (b := w.heap.size + 1 + 1) (by omega)) (o := 11) (.slice pa A.length ca))
  have v1 := (OwnAns.setn v1 (b := w.heap.size + 1 + 1) (o := 11) (by omega) (.slice pa A.length ca))
  have C3 := (C3.cput11 (.slice pa A.length ca))
  go_wp2_with fail
  refine (toDepS_laws x.needs x.na x.nc _ (hin.nd.below G) hf.nd).mono ?_
  rintro e w5 ⟨u5, rfl, o2, hb5⟩
  obtain ⟨p2, c2, rfl, rd5⟩ := Reads.of_owns o2
  have cn : ∀ i, (Value.slice p1 x.ctx.length c1).ownBlock = some i → (Value.slice p2 x.needs.length c2).ownBlock ≠ some i := fun i hi he => by have h1 := (o1.lt i hi).2; have h2 := (o2.lt i he).1; omega
  have gn : ∀ i, ∀ m ∈ A.map anV, blkOf m = some i → (Value.slice p2 x.needs.length c2).ownBlock ≠ some i := fun i m hm hi he => by have h1 := (v1.inn.lt m hm i hi).2; have h2 := (o2.lt i he).1; omega
  have o2 := own_base o2 (show w.heap.size + 1 + 1 + 1 ≤ _ by have := C3.lt; simp at this ⊢; try omega)
  have C1 := C1.below hb5 C1.lt
  have C2 := C2.below hb5 C2.lt
  have C3 := C3.below hb5 C3.lt
  have G := below_after G hb5
  have o0 := own_below o0 hb5
  have o1 := own_below o1 hb5
  have v1 := v1.below hb5
  clear q0 q1 q2 q3 q4 q5 q6 q7 q8 q9 q10 q11 q12 qf ql k0 k1 k2 k3 k4 k5 k6 k7 k8 k9 k10 k11 k12 kf kl
  obtain ⟨q0, q1, q2, q3, q4, q5, q6, q7, q8, q9, q10, q11, q12, qf, ql⟩ := C1.call
  obtain ⟨k0, k1, k2, k3, k4, k5, k6, k7, k8, k9, k10, k11, k12, kf, kl⟩ := C3.call
  have C1 := (C1.setb (b' := w.heap.size + 1 + 1) (o := 12) n1 (.slice p2 x.needs.length c2))
  have C2 := (C2.setb (b' := w.heap.size + 1 + 1) (o := 12) n2 (.slice p2 x.needs.length c2))
  have G := (below_setb G (b := w.heap.size + 1 + 1) (o := 12) hle (.slice p2 x.needs.length c2))
  have o0 := (own_set o0 (own_ne' o0 (b := w.heap.size + 1 + 1) (by omega)) (o := 12) (.slice p2 x.needs.length c2))
  have o1 := (own_set o1 (own_ne' o1 (b := w.heap.size + 1 + 1) (by omega)) (o := 12) (.slice p2 x.needs.length c2))
  have v1 := (OwnAns.setn v1 (b := w.heap.size + 1 + 1) (o := 12) (by omega) (.slice p2 x.needs.length c2))
  have o2 := (own_set o2 (own_ne' o2 (b := w.heap.size + 1 + 1) (by omega)) (o := 12) (.slice p2 x.needs.length c2))
  have C3 := (C3.cput12 (.slice p2 x.needs.length c2))
  have o0 := (own_set (own_set (own_set (own_set (own_set (own_set (own_set (own_set (own_set (own_set (own_set (own_set (own_set o0 (own_ne' o0 (b := w.heap.size + 1) (by omega)) (o := 0) (.int .i64 x.client)) (own_ne' o0 (b := w.heap.size + 1) (by omega)) (o := 1) (.int .i64 x.num)) (own_ne' o0 (b := w.heap.size + 1) (by omega)) (o := 2) (.int .i64 x.kind)) (own_ne' o0 (b := w.heap.size + 1) (by omega)) (o := 3) (.slice p0 x.keys.length c0)) (own_ne' o0 (b := w.heap.size + 1) (by omega)) (o := 4) (.int .i64 x.val)) (own_ne' o0 (b := w.heap.size + 1) (by omega)) (o := 5) (.slice p1 x.ctx.length c1)) (own_ne' o0 (b := w.heap.size + 1) (by omega)) (o := 6) (.int .i64 x.beg)) (own_ne' o0 (b := w.heap.size + 1) (by omega)) (o := 7) (.int .i64 x.fin)) (own_ne' o0 (b := w.heap.size + 1) (by omega)) (o := 8) (.bool x.over)) (own_ne' o0 (b := w.heap.size + 1) (by omega)) (o := 9) (.int .i64 x.time)) (own_ne' o0 (b := w.heap.size + 1) (by omega)) (o := 10) (.int .i64 x.site)) (own_ne' o0 (b := w.heap.size + 1) (by omega)) (o := 11) (.slice pa A.length ca)) (own_ne' o0 (b := w.heap.size + 1) (by omega)) (o := 12) (.slice p2 x.needs.length c2))
  have o1 := (own_set (own_set (own_set (own_set (own_set (own_set (own_set (own_set (own_set (own_set (own_set (own_set (own_set o1 (own_ne' o1 (b := w.heap.size + 1) (by omega)) (o := 0) (.int .i64 x.client)) (own_ne' o1 (b := w.heap.size + 1) (by omega)) (o := 1) (.int .i64 x.num)) (own_ne' o1 (b := w.heap.size + 1) (by omega)) (o := 2) (.int .i64 x.kind)) (own_ne' o1 (b := w.heap.size + 1) (by omega)) (o := 3) (.slice p0 x.keys.length c0)) (own_ne' o1 (b := w.heap.size + 1) (by omega)) (o := 4) (.int .i64 x.val)) (own_ne' o1 (b := w.heap.size + 1) (by omega)) (o := 5) (.slice p1 x.ctx.length c1)) (own_ne' o1 (b := w.heap.size + 1) (by omega)) (o := 6) (.int .i64 x.beg)) (own_ne' o1 (b := w.heap.size + 1) (by omega)) (o := 7) (.int .i64 x.fin)) (own_ne' o1 (b := w.heap.size + 1) (by omega)) (o := 8) (.bool x.over)) (own_ne' o1 (b := w.heap.size + 1) (by omega)) (o := 9) (.int .i64 x.time)) (own_ne' o1 (b := w.heap.size + 1) (by omega)) (o := 10) (.int .i64 x.site)) (own_ne' o1 (b := w.heap.size + 1) (by omega)) (o := 11) (.slice pa A.length ca)) (own_ne' o1 (b := w.heap.size + 1) (by omega)) (o := 12) (.slice p2 x.needs.length c2))
  have v1 := (OwnAns.setn (OwnAns.setn (OwnAns.setn (OwnAns.setn (OwnAns.setn (OwnAns.setn (OwnAns.setn (OwnAns.setn (OwnAns.setn (OwnAns.setn (OwnAns.setn (OwnAns.setn (OwnAns.setn v1 (b := w.heap.size + 1) (o := 0) (by omega) (.int .i64 x.client)) (b := w.heap.size + 1) (o := 1) (by omega) (.int .i64 x.num)) (b := w.heap.size + 1) (o := 2) (by omega) (.int .i64 x.kind)) (b := w.heap.size + 1) (o := 3) (by omega) (.slice p0 x.keys.length c0)) (b := w.heap.size + 1) (o := 4) (by omega) (.int .i64 x.val)) (b := w.heap.size + 1) (o := 5) (by omega) (.slice p1 x.ctx.length c1)) (b := w.heap.size + 1) (o := 6) (by omega) (.int .i64 x.beg)) (b := w.heap.size + 1) (o := 7) (by omega) (.int .i64 x.fin)) (b := w.heap.size + 1) (o := 8) (by omega) (.bool x.over)) (b := w.heap.size + 1) (o := 9) (by omega) (.int .i64 x.time)) (b := w.heap.size + 1) (o := 10) (by omega) (.int .i64 x.site)) (b := w.heap.size + 1) (o := 11) (by omega) (.slice pa A.length ca)) (b := w.heap.size + 1) (o := 12) (by omega) (.slice p2 x.needs.length c2))
  have o2 := (own_set (own_set (own_set (own_set (own_set (own_set (own_set (own_set (own_set (own_set (own_set (own_set (own_set o2 (own_ne' o2 (b := w.heap.size + 1) (by omega)) (o := 0) (.int .i64 x.client)) (own_ne' o2 (b := w.heap.size + 1) (by omega)) (o := 1) (.int .i64 x.num)) (own_ne' o2 (b := w.heap.size + 1) (by omega)) (o := 2) (.int .i64 x.kind)) (own_ne' o2 (b := w.heap.size + 1) (by omega)) (o := 3) (.slice p0 x.keys.length c0)) (own_ne' o2 (b := w.heap.size + 1) (by omega)) (o := 4) (.int .i64 x.val)) (own_ne' o2 (b := w.heap.size + 1) (by omega)) (o := 5) (.slice p1 x.ctx.length c1)) (own_ne' o2 (b := w.heap.size + 1) (by omega)) (o := 6) (.int .i64 x.beg)) (own_ne' o2 (b := w.heap.size + 1) (by omega)) (o := 7) (.int .i64 x.fin)) (own_ne' o2 (b := w.heap.size + 1) (by omega)) (o := 8) (.bool x.over)) (own_ne' o2 (b := w.heap.size + 1) (by omega)) (o := 9) (.int .i64 x.time)) (own_ne' o2 (b := w.heap.size + 1) (by omega)) (o := 10) (.int .i64 x.site)) (own_ne' o2 (b := w.heap.size + 1) (by omega)) (o := 11) (.slice pa A.length ca)) (own_ne' o2 (b := w.heap.size + 1) (by omega)) (o := 12) (.slice p2 x.needs.length c2))
  have G := (below_setb (below_setb (below_setb (below_setb (below_setb (below_setb (below_setb (below_setb (below_setb (below_setb (below_setb (below_setb (below_setb G (b := w.heap.size + 1) (o := 0) (Nat.le_succ _) (.int .i64 x.client)) (b := w.heap.size + 1) (o := 1) (Nat.le_succ _) (.int .i64 x.num)) (b := w.heap.size + 1) (o := 2) (Nat.le_succ _) (.int .i64 x.kind)) (b := w.heap.size + 1) (o := 3) (Nat.le_succ _) (.slice p0 x.keys.length c0)) (b := w.heap.size + 1) (o := 4) (Nat.le_succ _) (.int .i64 x.val)) (b := w.heap.size + 1) (o := 5) (Nat.le_succ _) (.slice p1 x.ctx.length c1)) (b := w.heap.size + 1) (o := 6) (Nat.le_succ _) (.int .i64 x.beg)) (b := w.heap.size + 1) (o := 7) (Nat.le_succ _) (.int .i64 x.fin)) (b := w.heap.size + 1) (o := 8) (Nat.le_succ _) (.bool x.over)) (b := w.heap.size + 1) (o := 9) (Nat.le_succ _) (.int .i64 x.time)) (b := w.heap.size + 1) (o := 10) (Nat.le_succ _) (.int .i64 x.site)) (b := w.heap.size + 1) (o := 11) (Nat.le_succ _) (.slice pa A.length ca)) (b := w.heap.size + 1) (o := 12) (Nat.le_succ _) (.slice p2 x.needs.length c2))
  obtain ⟨y0, y1, y2, y3, y4, y5, y6, y7, y8, y9, y10, y11, y12, yf, yl⟩ := C2.call
  obtain ⟨z0, z1, z2, z3, z4, z5, z6, z7, z8, z9, z10, z11, z12, zf, zl⟩ := C3.call
  have hN : w.heap.size ≤ w.heap.size + 1 + 1 + 1 := by omega
  go_wp2
  exact bodyPost_ret (v := .agg #[.int .i64 x.client, .int .i64 x.num, .int .i64 x.kind, .slice p0 x.keys.length c0, .int .i64 x.val, .slice p1 x.ctx.length c1, .int .i64 x.beg, .int .i64 x.fin, .bool x.over, .int .i64 x.time, .int .i64 x.site, .slice pa A.length ca, .slice p2 x.needs.length c2]) (by simp [results, Try.results36, go_sem, *]) rfl ⟨A, p0, p1, pa, p2, c0, c1, ca, c2, rfl, hA.out, ⟨own_base o0 hN, own_base o1 hN, v1.base hN, own_base o2 hN, cg, cn, gn⟩, G⟩
set_option maxHeartbeats 2000000 in
theorem szCall_laws (x : Mc) (left : Int) (w : World) (hin : CallIn w x) (h0 : 0 ≤ left) (h1 : left ≤ 1048576) :
    Calls Try.prog 34 #[.agg #[.int .i64 x.client, .int .i64 x.num, .int .i64 x.kind, .slice x.ka x.keys.length x.kc, .int .i64 x.val, .slice x.xa x.ctx.length x.xc, .int .i64 x.beg, .int .i64 x.fin, .bool x.over, .int .i64 x.time, .int .i64 x.site, .slice x.ga x.got.length x.gc, .slice x.na x.needs.length x.nc], .int .i64 left] w fun e w' => ∃ r : Int, e = .returned (.int .i64 r) ∧ (0 ≤ r → x.keys.length ≤ 1048576 ∧ x.ctx.length ≤ 1048576 ∧ sizeA x.got ≤ 1048576 ∧ x.needs.length ≤ 1048576) ∧ Below w.heap.size w w' := by
  have BV := Blk.new w #[.int .i64 x.client, .int .i64 x.num, .int .i64 x.kind, .slice x.ka x.keys.length x.kc, .int .i64 x.val, .slice x.xa x.ctx.length x.xc, .int .i64 x.beg, .int .i64 x.fin, .bool x.over, .int .i64 x.time, .int .i64 x.site, .slice x.ga x.got.length x.gc, .slice x.na x.needs.length x.nc] 68
  have G := below_box w (.cells #[.int .i64 x.client, .int .i64 x.num, .int .i64 x.kind, .slice x.ka x.keys.length x.kc, .int .i64 x.val, .slice x.xa x.ctx.length x.xc, .int .i64 x.beg, .int .i64 x.fin, .bool x.over, .int .i64 x.time, .int .i64 x.site, .slice x.ga x.got.length x.gc, .slice x.na x.needs.length x.nc] 68)
  obtain ⟨m1a, m1b, _⟩ := hin.ks
  obtain ⟨m2a, m2b, _⟩ := hin.cx
  obtain ⟨m3a, m3b, _⟩ := hin.nd
  obtain ⟨p0, p1, p2, p3, p4, p5, p6, p7, p8, p9, p10, p11, p12, pf, pl⟩ := BV.call
  go_enter Try.func34, Try.ntmps34
  go_wp2_with fail
  refine (szIntS_laws x.keys.length left x.ka x.kc _ h0 h1 (by omega)).mono ?_
  rintro e w' ⟨rfl, rfl⟩
  by_cases h1 : left < (x.keys.length : Int)
  · have hz : szR (left) (x.keys.length) = -1 := by rw [szR, if_pos h1]
    go_wp2
    go_ret
    exact ⟨-1, rfl, fun h => absurd h (by decide), G⟩
  have l1 : szR (left) (x.keys.length) = left - (x.keys.length : Int) := by rw [szR, if_neg h1]
  obtain ⟨r1, hr1⟩ : ∃ r, r = szR (left) (x.keys.length) := ⟨_, rfl⟩
  rw [← hr1] at l1
  rw [← hr1]
  have g1 : 0 ≤ r1 := by omega
  have u1 : r1 ≤ 1048576 := by omega
  have HR1 := Lib.hid hr1
  have HL1 := Lib.hid l1
  have s1 : (x.keys.length : Int) ≤ 1048576 := by omega
  clear hr1 l1 h1
  go_wp2_with fail
  refine (szDepS_laws x.ctx.length r1 x.xa x.xc _ g1 u1 (by omega)).mono ?_
  rintro e w' ⟨rfl, rfl⟩
  by_cases h2 : r1 < (x.ctx.length : Int)
  · have hz : szR (r1) (x.ctx.length) = -1 := by rw [szR, if_pos h2]
    go_wp2
    go_ret
    exact ⟨-1, rfl, fun h => absurd h (by decide), G⟩
  have l2 : szR (r1) (x.ctx.length) = r1 - (x.ctx.length : Int) := by rw [szR, if_neg h2]
  obtain ⟨r2, hr2⟩ : ∃ r, r = szR (r1) (x.ctx.length) := ⟨_, rfl⟩
  rw [← hr2] at l2
  rw [← hr2]
  have g2 : 0 ≤ r2 := by omega
  have u2 : r2 ≤ 1048576 := by omega
  have HR2 := Lib.hid hr2
  have HL2 := Lib.hid l2
  have s2 : (x.ctx.length : Int) ≤ 1048576 := by omega
  clear hr2 l2 h2
  go_wp2_with fail
  refine (szAnswerS_laws x.got r2 x.ga x.gc _ (hin.gt.below G) g2 u2).mono ?_
  rintro e w3 ⟨rfl, hb3⟩
  have BV := BV.below hb3 BV.lt
  have G := below_after G hb3
  clear p0 p1 p2 p3 p4 p5 p6 p7 p8 p9 p10 p11 p12 pf pl
  obtain ⟨p0, p1, p2, p3, p4, p5, p6, p7, p8, p9, p10, p11, p12, pf, pl⟩ := BV.call
  by_cases h3 : r2 < (sizeA x.got : Int)
  · have hz : szR (r2) (sizeA x.got) = -1 := by rw [szR, if_pos h3]
    go_wp2
    go_ret
    exact ⟨-1, rfl, fun h => absurd h (by decide), G⟩
  have l3 : szR (r2) (sizeA x.got) = r2 - (sizeA x.got : Int) := by rw [szR, if_neg h3]
  obtain ⟨r3, hr3⟩ : ∃ r, r = szR (r2) (sizeA x.got) := ⟨_, rfl⟩
  rw [← hr3] at l3
  rw [← hr3]
  have g3 : 0 ≤ r3 := by omega
  have u3 : r3 ≤ 1048576 := by omega
  have HR3 := Lib.hid hr3
  have HL3 := Lib.hid l3
  have s3 : (sizeA x.got : Int) ≤ 1048576 := by omega
  clear hr3 l3 h3
  go_wp2_with fail
  refine (szDepS_laws x.needs.length r3 x.na x.nc _ g3 u3 (by omega)).mono ?_
  rintro e w' ⟨rfl, rfl⟩
  by_cases h4 : r3 < (x.needs.length : Int)
  · have hz : szR (r3) (x.needs.length) = -1 := by rw [szR, if_pos h4]
    go_wp2
    go_ret
    exact ⟨-1, rfl, fun h => absurd h (by decide), G⟩
  have l4 : szR (r3) (x.needs.length) = r3 - (x.needs.length : Int) := by rw [szR, if_neg h4]
  obtain ⟨r4, hr4⟩ : ∃ r, r = szR (r3) (x.needs.length) := ⟨_, rfl⟩
  rw [← hr4] at l4
  rw [← hr4]
  have g4 : 0 ≤ r4 := by omega
  have u4 : r4 ≤ 1048576 := by omega
  have HR4 := Lib.hid hr4
  have HL4 := Lib.hid l4
  have s4 : (x.needs.length : Int) ≤ 1048576 := by omega
  clear hr4 l4 h4
  go_wp2
  go_ret
  exact ⟨r4, rfl, fun _ => ⟨by omega, by omega, by omega, by omega⟩, G⟩

set_option maxHeartbeats 4000000 in
theorem eqCallM_same (x : Mc) (A A' : List An) (p0 p1 pa p2 p0' p1' pa' p2' : Option Addr) (c0 c1 ca c2 c0' c1' ca' c2' : Nat) (w : World)
    (s1 : Reads w p0 x.keys.length c0 (intsC x.keys)) (s2 : Reads w p0' x.keys.length c0' (intsC x.keys)) (o1 : Reads w p1 x.ctx.length c1 (dpsC x.ctx)) (o2 : Reads w p1' x.ctx.length c1' (dpsC x.ctx))
    (a1 : Ans w pa ca A) (a2 : Ans w pa' ca' A') (hA : ps A' = ps A) (k1 : Reads w p2 x.needs.length c2 (dpsC x.needs)) (k2 : Reads w p2' x.needs.length c2' (dpsC x.needs)) :
    Calls Try.prog 38 #[.agg #[.int .i64 x.client, .int .i64 x.num, .int .i64 x.kind, .slice p0 x.keys.length c0, .int .i64 x.val, .slice p1 x.ctx.length c1, .int .i64 x.beg, .int .i64 x.fin, .bool x.over, .int .i64 x.time, .int .i64 x.site, .slice pa A.length ca, .slice p2 x.needs.length c2], .agg #[.int .i64 x.client, .int .i64 x.num, .int .i64 x.kind, .slice p0' x.keys.length c0', .int .i64 x.val, .slice p1' x.ctx.length c1', .int .i64 x.beg, .int .i64 x.fin, .bool x.over, .int .i64 x.time, .int .i64 x.site, .slice pa' A'.length ca', .slice p2' x.needs.length c2']] w fun e w' => e = .returned (.bool true) ∧ Below w.heap.size w w' := by
  have G := below_box2 w (.cells #[.int .i64 x.client, .int .i64 x.num, .int .i64 x.kind, .slice p0 x.keys.length c0, .int .i64 x.val, .slice p1 x.ctx.length c1, .int .i64 x.beg, .int .i64 x.fin, .bool x.over, .int .i64 x.time, .int .i64 x.site, .slice pa A.length ca, .slice p2 x.needs.length c2] 73) (.cells #[.int .i64 x.client, .int .i64 x.num, .int .i64 x.kind, .slice p0' x.keys.length c0', .int .i64 x.val, .slice p1' x.ctx.length c1', .int .i64 x.beg, .int .i64 x.fin, .bool x.over, .int .i64 x.time, .int .i64 x.site, .slice pa' A'.length ca', .slice p2' x.needs.length c2'] 73)
  have C1 := (Blk.new w #[.int .i64 x.client, .int .i64 x.num, .int .i64 x.kind, .slice p0 x.keys.length c0, .int .i64 x.val, .slice p1 x.ctx.length c1, .int .i64 x.beg, .int .i64 x.fin, .bool x.over, .int .i64 x.time, .int .i64 x.site, .slice pa A.length ca, .slice p2 x.needs.length c2] 73).alloc (.cells #[.int .i64 x.client, .int .i64 x.num, .int .i64 x.kind, .slice p0' x.keys.length c0', .int .i64 x.val, .slice p1' x.ctx.length c1', .int .i64 x.beg, .int .i64 x.fin, .bool x.over, .int .i64 x.time, .int .i64 x.site, .slice pa' A'.length ca', .slice p2' x.needs.length c2'] 73)
  have C2 := Blk.new (w.alloc (.cells #[.int .i64 x.client, .int .i64 x.num, .int .i64 x.kind, .slice p0 x.keys.length c0, .int .i64 x.val, .slice p1 x.ctx.length c1, .int .i64 x.beg, .int .i64 x.fin, .bool x.over, .int .i64 x.time, .int .i64 x.site, .slice pa A.length ca, .slice p2 x.needs.length c2] 73)) #[.int .i64 x.client, .int .i64 x.num, .int .i64 x.kind, .slice p0' x.keys.length c0', .int .i64 x.val, .slice p1' x.ctx.length c1', .int .i64 x.beg, .int .i64 x.fin, .bool x.over, .int .i64 x.time, .int .i64 x.site, .slice pa' A'.length ca', .slice p2' x.needs.length c2'] 73
  simp only [World.size_alloc] at C2
  have hyy : (x.over != x.over) = false := by cases x.over <;> rfl
  obtain ⟨x0, x1, x2, x3, x4, x5, x6, x7, x8, x9, x10, x11, x12, xf, xl⟩ := C1.call
  obtain ⟨y0, y1, y2, y3, y4, y5, y6, y7, y8, y9, y10, y11, y12, yf, yl⟩ := C2.call
  go_enter Try.func38, Try.ntmps38
  go_wp2_with fail
  refine (eqIntS_same x.keys p0 p0' c0 c0' _ (s1.below G) (s2.below G)).mono ?_
  rintro e w1 ⟨rfl, hb1⟩
  have C1 := C1.below hb1 C1.lt
  have C2 := C2.below hb1 C2.lt
  have G := below_after G hb1
  clear x0 x1 x2 x3 x4 x5 x6 x7 x8 x9 x10 x11 x12 xf xl y0 y1 y2 y3 y4 y5 y6 y7 y8 y9 y10 y11 y12 yf yl
  obtain ⟨x0, x1, x2, x3, x4, x5, x6, x7, x8, x9, x10, x11, x12, xf, xl⟩ := C1.call
  obtain ⟨y0, y1, y2, y3, y4, y5, y6, y7, y8, y9, y10, y11, y12, yf, yl⟩ := C2.call
  go_wp2_with fail
  refine (eqDepS_same x.ctx p1 p1' c1 c1' _ (o1.below G) (o2.below G)).mono ?_
  rintro e w2 ⟨rfl, hb2⟩
  have C1 := C1.below hb2 C1.lt
  have C2 := C2.below hb2 C2.lt
  have G := below_after G hb2
  clear x0 x1 x2 x3 x4 x5 x6 x7 x8 x9 x10 x11 x12 xf xl y0 y1 y2 y3 y4 y5 y6 y7 y8 y9 y10 y11 y12 yf yl
  obtain ⟨x0, x1, x2, x3, x4, x5, x6, x7, x8, x9, x10, x11, x12, xf, xl⟩ := C1.call
  obtain ⟨y0, y1, y2, y3, y4, y5, y6, y7, y8, y9, y10, y11, y12, yf, yl⟩ := C2.call
  go_wp2_with fail
  refine (eqStamp_same _ _ _).mono ?_
  rintro e w3 ⟨rfl, hb3⟩
  have C1 := C1.below hb3 C1.lt
  have C2 := C2.below hb3 C2.lt
  have G := below_after G hb3
  clear x0 x1 x2 x3 x4 x5 x6 x7 x8 x9 x10 x11 x12 xf xl y0 y1 y2 y3 y4 y5 y6 y7 y8 y9 y10 y11 y12 yf yl
  obtain ⟨x0, x1, x2, x3, x4, x5, x6, x7, x8, x9, x10, x11, x12, xf, xl⟩ := C1.call
  obtain ⟨y0, y1, y2, y3, y4, y5, y6, y7, y8, y9, y10, y11, y12, yf, yl⟩ := C2.call
  go_wp2_with fail
  refine (eqAnswerS_same A A' pa pa' ca ca' _ (a1.below G) (a2.below G) hA).mono ?_
  rintro e w4 ⟨rfl, hb4⟩
  have C1 := C1.below hb4 C1.lt
  have C2 := C2.below hb4 C2.lt
  have G := below_after G hb4
  clear x0 x1 x2 x3 x4 x5 x6 x7 x8 x9 x10 x11 x12 xf xl y0 y1 y2 y3 y4 y5 y6 y7 y8 y9 y10 y11 y12 yf yl
  obtain ⟨x0, x1, x2, x3, x4, x5, x6, x7, x8, x9, x10, x11, x12, xf, xl⟩ := C1.call
  obtain ⟨y0, y1, y2, y3, y4, y5, y6, y7, y8, y9, y10, y11, y12, yf, yl⟩ := C2.call
  go_wp2_with fail
  refine (eqDepS_same x.needs p2 p2' c2 c2' _ (k1.below G) (k2.below G)).mono ?_
  rintro e w5 ⟨rfl, hb5⟩
  have C1 := C1.below hb5 C1.lt
  have C2 := C2.below hb5 C2.lt
  have G := below_after G hb5
  clear x0 x1 x2 x3 x4 x5 x6 x7 x8 x9 x10 x11 x12 xf xl y0 y1 y2 y3 y4 y5 y6 y7 y8 y9 y10 y11 y12 yf yl
  obtain ⟨x0, x1, x2, x3, x4, x5, x6, x7, x8, x9, x10, x11, x12, xf, xl⟩ := C1.call
  obtain ⟨y0, y1, y2, y3, y4, y5, y6, y7, y8, y9, y10, y11, y12, yf, yl⟩ := C2.call
  go_wp2
  go_ret
  exact ⟨rfl, G⟩

end Go.Proofs.Ythciikogogkfcaa
