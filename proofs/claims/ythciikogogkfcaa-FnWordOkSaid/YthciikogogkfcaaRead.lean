/- The reader of a code: what is kept of it, and what each pick of it hands back: a number in its range. -/
import Derived.Test.YthciikogogkfcaaStampW
namespace Go.Proofs.Ythciikogogkfcaa
open Go.RowKit
set_option linter.unusedVariables false

/-- The reader in block g, at place q; it and what it reads lie below block N. -/
def Rd (N : Nat) (w : World) (g : Nat) (q : Nat) : Prop :=
  ∃ a len cap, w.cell? ⟨g, 0, none⟩ = some (.slice a len cap) ∧ w.cell? ⟨g, 1, none⟩ = some (.int .i64 q) ∧ w.frozen? ⟨g, 1, none⟩ = false ∧ g < N ∧ N ≤ w.heap.size ∧ len ≤ 2000 ∧
    (0 < len → ∃ b off, a = some ⟨b, off, none⟩ ∧ b < N ∧ b ≠ g ∧ ∀ i, i < len → ∃ z : Int, w.cell? ⟨b, off + i, none⟩ = some (.int .u8 z) ∧ 0 ≤ z ∧ z ≤ 255)

theorem Rd.lt {N : Nat} {w : World} {g q : Nat} (h : Rd N w g q) : g < N := by obtain ⟨_, _, _, _, _, _, h, _⟩ := h; exact h
theorem Rd.le {N : Nat} {w : World} {g q : Nat} (h : Rd N w g q) : N ≤ w.heap.size := by obtain ⟨_, _, _, _, _, _, _, h, _⟩ := h; exact h
theorem Rd.up {N M : Nat} {w : World} {g q : Nat} (h : Rd N w g q) (hM : N ≤ M) (hM' : M ≤ w.heap.size) : Rd M w g q := by
  obtain ⟨a, len, cap, h0, h1, h2, h3, h3', h4, h5⟩ := h
  refine ⟨a, len, cap, h0, h1, h2, by omega, hM', h4, fun hp => ?_⟩
  obtain ⟨b, off, rfl, hb1, hb2, hz⟩ := h5 hp
  exact ⟨b, off, rfl, by omega, hb2, hz⟩
theorem Rd.top {N : Nat} {w : World} {g q : Nat} (h : Rd N w g q) : Rd w.heap.size w g q := h.up h.le (Nat.le_refl _)
theorem Rd.belowN {N : Nat} {w w' : World} {g q : Nat} (h : Rd N w g q) (hb : Below N w w') : Rd N w' g q := by
  obtain ⟨a, len, cap, h0, h1, h2, h3, h3', h4, h5⟩ := h
  refine ⟨a, len, cap, by rw [hb.cell (p := ⟨g, 0, none⟩) h3]; exact h0, by rw [hb.cell (p := ⟨g, 1, none⟩) h3]; exact h1, by rw [hb.frozen (p := ⟨g, 1, none⟩) h3]; exact h2, h3, Nat.le_trans h3' hb.size, h4, fun hp => ?_⟩
  obtain ⟨b, off, rfl, hb1, hb2, hz⟩ := h5 hp
  refine ⟨b, off, rfl, hb1, hb2, fun i hi => ?_⟩
  obtain ⟨z, hz1, hz2⟩ := hz i hi
  exact ⟨z, by rw [hb.cell (p := ⟨b, off + i, none⟩) hb1]; exact hz1, hz2⟩
theorem Rd.below {N : Nat} {w w' : World} {g q : Nat} (h : Rd N w g q) (hb : Below w.heap.size w w') : Rd N w' g q := h.belowN (hb.mono h.le)
theorem Rd.set {N : Nat} {w : World} {g q : Nat} (h : Rd N w g q) {p : Addr} (hp : N ≤ p.block) (u : Value) : Rd N (w.setCell p u) g q := h.belowN ((Below.refl _ _).setCell hp u)
theorem Rd.alloc {N : Nat} {w : World} {g q : Nat} (h : Rd N w g q) (o : Obj) : Rd N (w.alloc o) g q := h.below (below_box _ _)

/-- Only block g has turned, and what is new. -/
def PickPost (N : Nat) (w : World) (g q : Nat) (n : Int) (e : Ending) (w' : World) : Prop := ∃ x : Int, e = .returned (.int .i64 x) ∧ 0 ≤ x ∧ x < n ∧ Rd N w' g (q + 1) ∧ w.grownBy w' (some g)

theorem Rd.step {N : Nat} {w : World} {g q : Nat} (h : Rd N w g q) : Rd N (w.setCell ⟨g, 1, none⟩ (.int .i64 ((q : Int) + 1))) g (q + 1) ∧ w.grownBy (w.setCell ⟨g, 1, none⟩ (.int .i64 ((q : Int) + 1))) (some g) := by
  obtain ⟨a, len, cap, h0, h1, h2, h3, h3', h4, h5⟩ := h
  refine ⟨⟨a, len, cap, ?_, set_same h1, by simpa using h2, h3, by simpa using h3', h4, fun hp => ?_⟩, ?_⟩
  · rw [set_other (by simp)]; exact h0
  · obtain ⟨b, off, rfl, hb1, hb2, hz⟩ := h5 hp
    refine ⟨b, off, rfl, hb1, hb2, fun i hi => ?_⟩
    obtain ⟨z, hz1, hz2⟩ := hz i hi
    exact ⟨z, by rw [set_other (by simp)]; exact hz1, hz2⟩
  · exact ⟨rfl, rfl, rfl, by simp [World.setCell], fun k hk hne => Below.heap_setCell _ _ _ _ (by simpa using hne)⟩
theorem i64_xor_nat (a b : Nat) (ha : a < 9223372036854775808) (hb : b < 9223372036854775808) : bits .xor .i64 (a : Int) (b : Int) = ((a ^^^ b : Nat) : Int) := by
  have ofInt_i64 : ∀ (a : Nat), a < 9223372036854775808 → (BitVec.ofInt 64 (a : Int)).toNat = a := fun a ha => by
    rw [BitVec.ofInt_natCast, BitVec.toNat_ofNat]; exact Nat.mod_eq_of_lt (by omega)
  have hx : a ^^^ b < 2 ^ 63 := Nat.xor_lt_two_pow (by omega) (by omega)
  show IntKind.i64.wrap ((BitVec.ofInt 64 (a : Int) ^^^ BitVec.ofInt 64 (b : Int)).toNat : Int) = _
  rw [BitVec.toNat_xor, ofInt_i64 a ha, ofInt_i64 b hb, IntKind.wrap_i64]
  omega
theorem xor_rem (x n : Int) (h0 : 0 ≤ x) (h1 : x ≤ 1000000000) (hn : 1 ≤ n) : 0 ≤ (bits BinOp.xor IntKind.i64 x (x / 64)).tmod n ∧ (bits BinOp.xor IntKind.i64 x (x / 64)).tmod n < n := by
  obtain ⟨m, rfl⟩ := Int.eq_ofNat_of_zero_le h0
  have e : ((m : Int) / 64) = ((m / 64 : Nat) : Int) := by omega
  rw [e, i64_xor_nat m (m / 64) (by omega) (by omega)]
  rw [Int.tmod_eq_emod_of_nonneg (by omega)]
  exact ⟨Int.emod_nonneg _ (by omega), Int.emod_lt_of_pos _ (by omega)⟩
theorem pick_zero (n : Int) (N g q : Nat) (w : World) (hr : Rd N w g q) (hn : 1 ≤ n) (hn' : n ≤ 1000000) (hq : q ≤ 1000000) (h0 : ∃ a cap, w.cell? ⟨g, 0, none⟩ = some (.slice a 0 cap)) :
    Calls Try.prog 108 #[.pointer (some ⟨g, 0, none⟩), .int .i64 n] w (PickPost N w g q n) := by
  obtain ⟨hs1, hs2⟩ := hr.step
  obtain ⟨a', cap', h0⟩ := h0
  obtain ⟨_, _, _, _, h1, h2, h3, h3', _, _⟩ := hr
  have h0' : (w.setCell ⟨g, 1, none⟩ (.int .i64 ((q : Int) + 1))).cell? ⟨g, 0, none⟩ = some (.slice a' 0 cap') := by
    rw [set_other (by simp)]; exact h0
  go_enter Try.func108, Try.ntmps108
  go_wp2
  go_ret
  exact ⟨0, rfl, by omega, by omega, hs1, hs2⟩
set_option maxHeartbeats 400000 in
theorem pick_in (n : Int) (N g q : Nat) (w : World) (hr : Rd N w g q) (hn : 1 ≤ n) (hn' : n ≤ 1000000) (hq : q ≤ 1000000) (h0 : ∃ a len cap, w.cell? ⟨g, 0, none⟩ = some (.slice a len cap) ∧ q < len) :
    Calls Try.prog 108 #[.pointer (some ⟨g, 0, none⟩), .int .i64 n] w (PickPost N w g q n) := by
  obtain ⟨hs1, hs2⟩ := hr.step
  obtain ⟨a', len', cap', h0, hlt⟩ := h0
  obtain ⟨a, len, cap, hh, h1, h2, h3, h3', h4, h5⟩ := hr
  rw [h0] at hh; simp only [Option.some.injEq, Value.slice.injEq] at hh
  obtain ⟨rfl, rfl, rfl⟩ := hh
  obtain ⟨b, off, rfl, hb1, hb2, hz⟩ := h5 (by omega)
  obtain ⟨z, hz1, hz2, hz3⟩ := hz q hlt
  have h0' : (w.setCell ⟨g, 1, none⟩ (.int .i64 ((q : Int) + 1))).cell? ⟨g, 0, none⟩ = some (.slice (some ⟨b, off, none⟩) len' cap') := by
    rw [set_other (by simp)]; exact h0
  have hz' : (w.setCell ⟨g, 1, none⟩ (.int .i64 ((q : Int) + 1))).cell? ⟨b, off + q, none⟩ = some (.int .u8 z) := by
    rw [set_other (by simp)]; exact hz1
  have hlt' : (q : Int) < (len' : Int) := by omega
  have hne : ((len' : Int) == 0) = false := by simp; omega
  clear h0 h5 hz
  go_enter Try.func108, Try.ntmps108
  go_wp2
  go_ret
  exact ⟨z % n, rfl, Int.emod_nonneg _ (by omega), Int.emod_lt_of_pos _ (by omega), hs1, hs2⟩
set_option maxHeartbeats 1000000 in
theorem pick_past (n : Int) (N g q : Nat) (w : World) (hr : Rd N w g q) (hn : 1 ≤ n) (hn' : n ≤ 1000000) (hq : q ≤ 1000000) (h0 : ∃ a len cap, w.cell? ⟨g, 0, none⟩ = some (.slice a len cap) ∧ 0 < len ∧ len ≤ q) :
    Calls Try.prog 108 #[.pointer (some ⟨g, 0, none⟩), .int .i64 n] w (PickPost N w g q n) := by
  obtain ⟨hs1, hs2⟩ := hr.step
  obtain ⟨a', len', cap', h0, hp, hge⟩ := h0
  obtain ⟨a, len, cap, hh, h1, h2, h3, h3', h4, h5⟩ := hr
  rw [h0] at hh; simp only [Option.some.injEq, Value.slice.injEq] at hh
  obtain ⟨rfl, rfl, rfl⟩ := hh
  obtain ⟨b, off, rfl, hb1, hb2, hz⟩ := h5 (by omega)
  have h0' : (w.setCell ⟨g, 1, none⟩ (.int .i64 ((q : Int) + 1))).cell? ⟨g, 0, none⟩ = some (.slice (some ⟨b, off, none⟩) len' cap') := by
    rw [set_other (by simp)]; exact h0
  have hge' : (len' : Int) ≤ (q : Int) := by omega
  have hp' : (0 : Int) < (len' : Int) := by omega
  have hne : ((len' : Int) == 0) = false := by simp; omega
  have hsz : g < w.heap.size := by omega
  have hsb : b < w.heap.size := by omega
  have e1 : (0 : Int) ≤ (q : Int) % (len' : Int) := Int.emod_nonneg _ (by omega)
  have e2 : (q : Int) % (len' : Int) < (len' : Int) := Int.emod_lt_of_pos _ (by omega)
  have e3 : (0 : Int) ≤ ((q : Int) * 7 + 3) % (len' : Int) := Int.emod_nonneg _ (by omega)
  have e4 : ((q : Int) * 7 + 3) % (len' : Int) < (len' : Int) := Int.emod_lt_of_pos _ (by omega)
  have e5 : (0 : Int) ≤ (q : Int) / (len' : Int) := Int.ediv_nonneg (by omega) (by omega)
  have e6 : (q : Int) / (len' : Int) ≤ (q : Int) := Int.ediv_le_self _ (by omega)
  obtain ⟨z, hz1, hz2, hz3⟩ := hz (q % len') (Nat.mod_lt _ (by omega))
  obtain ⟨y, hy1, hy2, hy3⟩ := hz ((q * 7 + 3) % len') (Nat.mod_lt _ (by omega))
  have hz1' : (w.setCell ⟨g, 1, none⟩ (.int .i64 ((q : Int) + 1))).cell? ⟨b, off + q % len', none⟩ = some (.int .u8 z) := by
    rw [set_other (by simp)]; exact hz1
  have hy1' : (w.setCell ⟨g, 1, none⟩ (.int .i64 ((q : Int) + 1))).cell? ⟨b, off + (q * 7 + 3) % len', none⟩ = some (.int .u8 y) := by
    rw [set_other (by simp)]; exact hy1
  clear h5 hz
  go_enter Try.func108, Try.ntmps108
  go_wp2
  refine region_over (by kernel_rfl) (by kernel_rfl) ?_
  repeat (go_big_quiet_step (fail))
  refine wpQuiet_nil ?_
  intro w1 hb
  obtain ⟨hc, hf, hl, hle⟩ := bcell hb
  go_wp2
  go_ret
  obtain ⟨r1, r2⟩ := xor_rem (z * 131 + y * 1117 + ↑q * 29 + ↑q / ↑len' * 53) n (by omega) (by omega) hn
  exact ⟨_, rfl, r1, r2, hs1.below hb, grown_trans' hs2 (grown_of_below hb _)⟩
theorem pick_any (n : Int) (N g q : Nat) (w : World) (hr : Rd N w g q) (hn : 1 ≤ n) (hn' : n ≤ 1000000) (hq : q ≤ 1000000) :
    Calls Try.prog 108 #[.pointer (some ⟨g, 0, none⟩), .int .i64 n] w (PickPost N w g q n) := by
  have hr' := hr
  obtain ⟨a, len, cap, h0, _⟩ := hr'
  by_cases hl : len = 0
  · subst hl; exact pick_zero n N g q w hr hn hn' hq ⟨_, _, h0⟩
  · by_cases h : q < len
    · exact pick_in n N g q w hr hn hn' hq ⟨_, _, _, h0, h⟩
    · exact pick_past n N g q w hr hn hn' hq ⟨_, _, _, h0, by omega, by omega⟩

theorem rd_new (w : World) (a : Option Addr) (len cap : Nat) (T : TypeId) (h : len ≤ 2000) (h3 : 0 < len → ∃ b off, a = some ⟨b, off, none⟩ ∧ b < w.heap.size ∧ ∀ i, i < len → ∃ z : Int, w.cell? ⟨b, off + i, none⟩ = some (.int .u8 z) ∧ 0 ≤ z ∧ z ≤ 255) :
    Rd (w.heap.size + 1) (w.alloc (.cells #[.slice a len cap, .int .i64 0] T)) w.heap.size 0 := by
  refine ⟨a, len, cap, by simp [go_sem], by simp [go_sem], by simp [go_sem], by omega, by simp, h, fun hp => ?_⟩
  obtain ⟨b, off, rfl, hb1, hz⟩ := h3 hp
  refine ⟨b, off, rfl, by omega, by omega, fun i hi => ?_⟩
  obtain ⟨z, hz1, hz2⟩ := hz i hi
  exact ⟨z, by rw [World.cell?_alloc_old w _ _ (Nat.ne_of_lt hb1)]; exact hz1, hz2⟩
/-- The reader is opened: a block of its own, at place 0. -/
def OpenPost (w : World) (e : Ending) (w' : World) : Prop := e = .returned (.pointer (some ⟨w.heap.size, 0, none⟩)) ∧ Rd (w.heap.size + 1) w' w.heap.size 0 ∧ Below w.heap.size w w'
theorem open_any (a : Option Addr) (len cap : Nat) (w : World) (hb : BytesIn w a len cap) :
    Calls Try.prog 46 #[.slice a len cap] w (OpenPost w) := by
  obtain ⟨h1, h2, h3⟩ := hb
  unfold maxLen at h2
  by_cases hl : 2000 < len
  · obtain ⟨b, off, rfl, hb1, hz⟩ := h3 (by omega)
    have hl' : (2000 : Int) < (len : Int) := by omega
    have hc' : (2000 : Int) ≤ (cap : Int) := by omega
    go_enter Try.func46, Try.ntmps46
    go_wp2
    go_ret
    exact ⟨rfl, rd_new w _ 2000 _ _ (by omega) (fun _ => ⟨b, off, rfl, hb1, fun i hi => hz i (by omega)⟩), below_alloc (Below.refl _ _) _⟩
  · have hl' : (len : Int) ≤ (2000 : Int) := by omega
    go_enter Try.func46, Try.ntmps46
    go_wp2
    go_ret
    exact ⟨rfl, rd_new w _ len _ _ (by omega) h3, below_alloc (Below.refl _ _) _⟩
end Go.Proofs.Ythciikogogkfcaa
