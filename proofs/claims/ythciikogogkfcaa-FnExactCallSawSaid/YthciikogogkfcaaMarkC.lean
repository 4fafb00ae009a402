/- Calls of one's own, marked by the laws' own functions: nothing but their blocks turns. -/
import Derived.Test.YthciikogogkfcaaMarkV
import Derived.Test.YthciikogogkfcaaCallX
namespace Go.Proofs.Ythciikogogkfcaa
open Go.RowKit Go.Deep
set_option linter.unusedVariables false

theorem OwnAns.but {S : Nat → Prop} {N : Nat} {w w' : World} {v : Value} {l : List An} (h : OwnAns N w v l) (hb : But S w w') (h0 : ∀ b, v.ownBlock = some b → ¬ S b) (hn : ∀ m ∈ l.map anV, ∀ i, blkOf m = some i → ¬ S i) : OwnAns N w' v l :=
  ⟨own_but h.own hb h0, fun m hm => own_but (h.inn.row m hm) hb fun b e => hn m hm b e, h.inn.apart⟩
theorem ans_mid (A B : List An) (m : An) {j : Nat} (hA : A.length = j) : (ansC (A ++ m :: B))[j * 9]? = some (.int .i64 m.p.key) ∧ (ansC (A ++ m :: B))[j * 9 + 1]? = some (.bool m.p.yes) ∧ (ansC (A ++ m :: B))[j * 9 + 2]? = some (.int .i64 m.p.v.key) ∧ (ansC (A ++ m :: B))[j * 9 + 3]? = some (.int .i64 m.p.v.time) ∧ (ansC (A ++ m :: B))[j * 9 + 4]? = some (.int .i64 m.p.v.site) ∧
    (ansC (A ++ m :: B))[j * 9 + 5]? = some (.int .i64 m.p.v.val) ∧ (ansC (A ++ m :: B))[j * 9 + 6]? = some (.int .i64 m.p.v.client) ∧ (ansC (A ++ m :: B))[j * 9 + 7]? = some (.int .i64 m.p.v.call) ∧ (ansC (A ++ m :: B))[j * 9 + 8]? = some (.slice m.a m.p.v.deps.length m.c) := by
  subst hA
  have h := ansC_get (A ++ m :: B) A.length (by simp)
  have e : (A ++ m :: B)[A.length]'(by simp) = m := by simp
  rw [e] at h
  exact h
theorem ansC_app (A B : List An) : ansC (A ++ B) = ansC A ++ ansC B := by simp [ansC]
def markA (q0 q1 q2 q3 q4 q5 q6 : Int) (y : Bool) (m : An) : An := ⟨⟨q0, y, ⟨q1, q2, q3, q4, q5, q6, m.p.v.deps⟩⟩, m.a, m.c⟩
theorem ans_mark (A B : List An) (m : An) (q0 q1 q2 q3 q4 q5 q6 : Int) (y : Bool) {j : Nat} (hA : A.length = j) :
    ((((((((ansC (A ++ m :: B)).set (j * 9) (.int .i64 q0)).set (j * 9 + 1) (.bool y)).set (j * 9 + 2) (.int .i64 q1)).set (j * 9 + 3) (.int .i64 q2)).set (j * 9 + 4) (.int .i64 q3)).set (j * 9 + 5) (.int .i64 q4)).set (j * 9 + 6) (.int .i64 q5)).set (j * 9 + 7) (.int .i64 q6) = ansC (A ++ markA q0 q1 q2 q3 q4 q5 q6 y m :: B) := by
  have hl : (ansC A).length = j * 9 := by rw [ansC_len, hA]
  rw [ansC_app, ansC_app, set_past0 hl, set_past hl, set_past hl, set_past hl, set_past hl, set_past hl, set_past hl, set_past hl]
  simp only [ansC, List.flatMap_cons, anC, markA]
  rfl
def reD (q : Int) (m : An) : An := ⟨⟨m.p.key, m.p.yes, ⟨m.p.v.key, m.p.v.time, m.p.v.site, m.p.v.val, m.p.v.client, m.p.v.call, marksD q m.p.v.deps.length⟩⟩, m.a, m.c⟩
theorem ans_reD (A B : List An) (m : An) (q : Int) : ansC (A ++ reD q m :: B) = ansC (A ++ m :: B) := by
  rw [ansC_app, ansC_app]
  simp only [ansC, List.flatMap_cons, anC, reD, marksD_len]
theorem reD_blk (q : Int) (m : An) : blkOf (anV (reD q m)) = blkOf (anV m) := by
  unfold blkOf; simp only [anV, reD, marksD_len]
theorem inn_turnA {N : Nat} {w w' : World} {A B : List An} {m m' : An} (h : OwnIn N w ((A ++ m :: B).map anV)) (hg : w.grownBy w' (blkOf (anV m))) (hb : blkOf (anV m') = blkOf (anV m))
    (own : w'.ownsRow N 32 3 (.slice m'.a m'.p.v.deps.length m'.c) m'.p.v.deps.length (dpsC m'.p.v.deps)) : OwnIn N w' ((A ++ m' :: B).map anV) := by
  rw [List.map_append, List.map_cons] at h ⊢
  exact h.turn hg hb own
theorem inn_same {N : Nat} {w : World} {A B : List An} {m : An} {q0 q1 q2 q3 q4 q5 q6 : Int} {y : Bool} (h : OwnIn N w ((A ++ m :: B).map anV)) : OwnIn N w ((A ++ markA q0 q1 q2 q3 q4 q5 q6 y m :: B).map anV) := by
  rw [List.map_append, List.map_cons] at h ⊢
  exact h.turn (only_refl _ _) rfl (h.row (anV m) (by simp))

set_option maxHeartbeats 2000000 in
theorem markIntS_laws (n : Nat) (k : Int) (a : Option Addr) (cap N : Nat) (xs : List Value) (w : World) (own : w.ownsRow N 3 1 (.slice a n cap) n xs) (h0 : 0 ≤ k) (h1 : k + (n : Int) ≤ 1000000000) :
    Calls Try.prog 106 #[.slice a n cap, .int .i64 k] w fun e w' => e = .returned (.int .i64 (k + (n : Int))) ∧ w.grownBy w' (Value.slice a n cap).ownBlock := by
  have hn : n ≤ 1000000000 := by omega
  go_enter Try.func106, Try.ntmps106
  go_wp2
  go_loopw [1, 5] (fun q i wr => ∃ j : Nat, ∃ ys : List Value, j ≤ n ∧ i = .int .i64 j ∧ q = .int .i64 (k + (j : Int)) ∧ wr.ownsRow N 3 1 (.slice a n cap) n ys ∧ w.grownBy wr (Value.slice a n cap).ownBlock) (fun _ i _ => n - (intOf i).toNat)
  case atStart => exact ⟨0, xs, Nat.zero_le _, rfl, int_eq (by simp), own, only_refl _ _⟩
  case round =>
    obtain ⟨j, ys, hj, rfl, rfl, ow, hG⟩ := hrel
    by_cases hlt : j < n
    · obtain ⟨g, cp, hv, hgN, hgl, hfr, hcl⟩ := own_open ow (by omega)
      simp only [Value.slice.injEq] at hv
      obtain ⟨rfl, -, rfl⟩ := hv
      have hyl : ys.length = n := by have := ow.1; omega
      have c0 := hcl j _ (List.getElem?_eq_getElem (by omega : j < ys.length))
      have c0' : wr.cell? ⟨g, j * 1, none⟩ = some ys[j] := by rw [Nat.mul_one]; exact c0
      have hi0 : (0 : Int) ≤ (j : Int) := by omega
      have hi1 : (j : Int) < (n : Int) := by omega
      obtain ⟨q, hq⟩ : ∃ q, q = k + (j : Int) := ⟨_, rfl⟩
      rw [← hq]
      have hq0 : 0 ≤ q := by omega
      have hq1 : q ≤ 1000000000 := by omega
      have hqn : q + 1 = k + ((j + 1 : Nat) : Int) := by push_cast; omega
      have own6 := own_write ow j (.int .i64 q)
      have G6 := only_setCell hG (p := ⟨g, j, none⟩) (Or.inl rfl) (.int .i64 q)
      have HQ := Lib.hid hqn
      clear hcl hq hqn ow hG h1
      go_wp2
      go_roundw
      case rel => exact ⟨j + 1, _, by omega, by go_num, int_eq HQ.out, own6, G6⟩
      case measure => simp [intOf]; omega
    · obtain rfl : j = n := by omega
      go_wp2
      go_ret
      exact ⟨rfl, hG⟩

set_option maxRecDepth 100000 in
set_option maxHeartbeats 4000000 in
theorem markAnswerS_laws (ms : List An) (k : Int) (a : Option Addr) (c N : Nat) (w : World) (own : OwnAns N w (.slice a ms.length c) ms) (h0 : 0 ≤ k) (h1 : k + 8 * (ms.length : Int) + 3 * (sumA ms : Int) ≤ 1000000000) (hf : FewA ms) :
    Calls Try.prog 107 #[.slice a ms.length c, .int .i64 k] w fun e w' => e = .returned (.int .i64 (k + 8 * (ms.length : Int) + 3 * (sumA ms : Int))) ∧ But (BlksOf (.slice a ms.length c) (ms.map anV)) w w' := by
  have hfl := hf.1
  go_enter Try.func107, Try.ntmps107
  go_wp2
  go_loopw [1, 5] (fun q i wr => ∃ j : Nat, ∃ T : List An, j ≤ ms.length ∧ T.length = j ∧ i = .int .i64 j ∧ q = .int .i64 (k + 8 * (j : Int) + 3 * (sumA (ms.take j) : Int)) ∧ wr.ownsRow N 114 9 (.slice a ms.length c) ms.length (ansC (T ++ ms.drop j)) ∧ OwnIn N wr ((T ++ ms.drop j).map anV) ∧ But (BlksOf (.slice a ms.length c) (ms.map anV)) w wr) (fun _ i _ => ms.length - (intOf i).toNat)
  case atStart => exact ⟨0, [], Nat.zero_le _, rfl, rfl, int_eq (by simp [sumA]), by simpa using own.own, by simpa using own.inn, But.refl _ _⟩
  case round =>
    obtain ⟨j, T, hj, HA, rfl, rfl, ow, inn, hB⟩ := hrel
    by_cases hlt : j < ms.length
    · have hdr : ms.drop j = ms[j] :: ms.drop (j + 1) := List.drop_eq_getElem_cons hlt
      rw [hdr] at ow inn
      obtain ⟨g, cp, hv, hgN, hgl, hfr, hcl⟩ := own_open ow (by omega)
      simp only [Value.slice.injEq] at hv
      obtain ⟨rfl, -, rfl⟩ := hv
      obtain ⟨g0, g1, g2, g3, g4, g5, g6, g7, g8⟩ := ans_mid T (ms.drop (j + 1)) ms[j] HA
      have c0 := hcl _ _ g0
      have c1 := hcl _ _ g1
      have c2 := hcl _ _ g2
      have c3 := hcl _ _ g3
      have c4 := hcl _ _ g4
      have c5 := hcl _ _ g5
      have c6 := hcl _ _ g6
      have c7 := hcl _ _ g7
      have c8 := hcl _ _ g8
      have hct := sumA_take ms j hlt
      have hcl2 := sumA_take_le ms (j + 1)
      have hfj := hf.get j hlt
      obtain ⟨q, hq⟩ : ∃ q, q = k + 8 * (j : Int) + 3 * (sumA (ms.take j) : Int) := ⟨_, rfl⟩
      rw [← hq]
      have hq0 : 0 ≤ q := by omega
      have hq1 : q + 8 + 3 * (ms[j].p.v.deps.length : Int) ≤ 1000000000 := by omega
      have hqn : q + 1 + 1 + 1 + 1 + 1 + 1 + 1 + 1 + 3 * (ms[j].p.v.deps.length : Int) = k + 8 * ((j + 1 : Nat) : Int) + 3 * (sumA (ms.take (j + 1)) : Int) := by push_cast; omega
      have hi0 : (0 : Int) ≤ (j : Int) := by omega
      have hi1 : (j : Int) < (ms.length : Int) := by omega
      have hne : ∀ m ∈ (T ++ ms[j] :: ms.drop (j + 1)).map anV, blkOf m ≠ some g := fun m hm => by
        rcases own_types (inn.row m hm) ow (by decide) with h | h
        · intro e; unfold blkOf at e; rw [h] at e; cases e
        · exact h
      obtain ⟨y, hy⟩ : ∃ y, ((q + 1) % 3 == 0) = y := ⟨_, rfl⟩
      have own6 := (own_write (own_write (own_write (own_write (own_write (own_write (own_write (own_write ow (j * 9) (.int .i64 q)) (j * 9 + 1) (.bool y)) (j * 9 + 2) (.int .i64 (q + 1 + 1))) (j * 9 + 3) (.int .i64 (q + 1 + 1 + 1))) (j * 9 + 4) (.int .i64 (q + 1 + 1 + 1 + 1))) (j * 9 + 5) (.int .i64 (q + 1 + 1 + 1 + 1 + 1))) (j * 9 + 6) (.int .i64 (q + 1 + 1 + 1 + 1 + 1 + 1))) (j * 9 + 7) (.int .i64 (q + 1 + 1 + 1 + 1 + 1 + 1 + 1)))
      rw [ans_mark T (ms.drop (j + 1)) ms[j] q (q + 1 + 1) (q + 1 + 1 + 1) (q + 1 + 1 + 1 + 1) (q + 1 + 1 + 1 + 1 + 1) (q + 1 + 1 + 1 + 1 + 1 + 1) (q + 1 + 1 + 1 + 1 + 1 + 1 + 1) y HA] at own6
      have inn6 := (OwnIn.set' (OwnIn.set' (OwnIn.set' (OwnIn.set' (OwnIn.set' (OwnIn.set' (OwnIn.set' (OwnIn.set' inn hne (o := j * 9) (.int .i64 q)) hne (o := j * 9 + 1) (.bool y)) hne (o := j * 9 + 2) (.int .i64 (q + 1 + 1))) hne (o := j * 9 + 3) (.int .i64 (q + 1 + 1 + 1))) hne (o := j * 9 + 4) (.int .i64 (q + 1 + 1 + 1 + 1))) hne (o := j * 9 + 5) (.int .i64 (q + 1 + 1 + 1 + 1 + 1))) hne (o := j * 9 + 6) (.int .i64 (q + 1 + 1 + 1 + 1 + 1 + 1))) hne (o := j * 9 + 7) (.int .i64 (q + 1 + 1 + 1 + 1 + 1 + 1 + 1)))
      have B6 := (But.set (But.set (But.set (But.set (But.set (But.set (But.set (But.set hB (o := j * 9) (Or.inl rfl) (.int .i64 q)) (o := j * 9 + 1) (Or.inl rfl) (.bool y)) (o := j * 9 + 2) (Or.inl rfl) (.int .i64 (q + 1 + 1))) (o := j * 9 + 3) (Or.inl rfl) (.int .i64 (q + 1 + 1 + 1))) (o := j * 9 + 4) (Or.inl rfl) (.int .i64 (q + 1 + 1 + 1 + 1))) (o := j * 9 + 5) (Or.inl rfl) (.int .i64 (q + 1 + 1 + 1 + 1 + 1))) (o := j * 9 + 6) (Or.inl rfl) (.int .i64 (q + 1 + 1 + 1 + 1 + 1 + 1))) (o := j * 9 + 7) (Or.inl rfl) (.int .i64 (q + 1 + 1 + 1 + 1 + 1 + 1 + 1)))
      have ownm := inn6.row (anV ms[j]) (List.mem_map_of_mem (List.mem_append.2 (Or.inr List.mem_cons_self)))
      have HQ := Lib.hid hqn
      have HL : Hid ((T ++ [reD (q + 8) (markA q (q + 1 + 1) (q + 1 + 1 + 1) (q + 1 + 1 + 1 + 1) (q + 1 + 1 + 1 + 1 + 1) (q + 1 + 1 + 1 + 1 + 1 + 1) (q + 1 + 1 + 1 + 1 + 1 + 1 + 1) y ms[j])]).length = j + 1) := by show _ = _; rw [List.length_append, HA]; rfl
      have HS : Hid (T ++ reD (q + 8) (markA q (q + 1 + 1) (q + 1 + 1 + 1) (q + 1 + 1 + 1 + 1) (q + 1 + 1 + 1 + 1 + 1) (q + 1 + 1 + 1 + 1 + 1 + 1) (q + 1 + 1 + 1 + 1 + 1 + 1 + 1) y ms[j]) :: ms.drop (j + 1) = (T ++ [reD (q + 8) (markA q (q + 1 + 1) (q + 1 + 1 + 1) (q + 1 + 1 + 1 + 1) (q + 1 + 1 + 1 + 1 + 1) (q + 1 + 1 + 1 + 1 + 1 + 1) (q + 1 + 1 + 1 + 1 + 1 + 1 + 1) y ms[j])]) ++ ms.drop (j + 1)) := by show _ = _; simp
      have hk8 : q + 1 + 1 + 1 + 1 + 1 + 1 + 1 + 1 = q + 8 := by omega
      clear hcl g0 g1 g2 g3 g4 g5 g6 g7 g8 hct hcl2 hq hqn hdr ow inn hB h1 HA
      go_wp2_with fail
      refine (markDepS_laws ms[j].p.v.deps.length (q + 8) ms[j].a ms[j].c N _ _ ownm (by omega) (by omega) hfj).mono ?_
      rintro e w7 ⟨rfl, mk, hg⟩
      have inn7 := inn_turnA (m' := reD (q + 8) (markA q (q + 1 + 1) (q + 1 + 1 + 1) (q + 1 + 1 + 1 + 1) (q + 1 + 1 + 1 + 1 + 1) (q + 1 + 1 + 1 + 1 + 1 + 1) (q + 1 + 1 + 1 + 1 + 1 + 1 + 1) y ms[j])) (inn_same (q0 := q) (q1 := q + 1 + 1) (q2 := q + 1 + 1 + 1) (q3 := q + 1 + 1 + 1 + 1) (q4 := q + 1 + 1 + 1 + 1 + 1) (q5 := q + 1 + 1 + 1 + 1 + 1 + 1) (q6 := q + 1 + 1 + 1 + 1 + 1 + 1 + 1) (y := y) inn6) hg (reD_blk _ _) (by simp only [reD, markA, marksD_len]; exact mk)
      have ow7 := own6.kept hg (own_types own6 ownm (by decide))
      rw [← ans_reD T (ms.drop (j + 1)) (markA q (q + 1 + 1) (q + 1 + 1 + 1) (q + 1 + 1 + 1 + 1) (q + 1 + 1 + 1 + 1 + 1) (q + 1 + 1 + 1 + 1 + 1 + 1) (q + 1 + 1 + 1 + 1 + 1 + 1 + 1) y ms[j]) (q + 8)] at ow7
      have B7 := B6.trans (But.of_grown hg fun i hi => Or.inr ⟨anV ms[j], List.mem_map_of_mem (List.getElem_mem hlt), hi⟩)
      rw [HS.out] at inn7 ow7
      go_wp2
      go_roundw
      case rel => exact ⟨j + 1, _, by omega, HL.out, by go_num, int_eq (by have := HQ.out; omega), ow7, inn7, B7⟩
      case measure => simp [intOf]; omega
    · obtain rfl : j = ms.length := by omega
      rw [List.take_length]
      go_wp2
      go_ret
      exact ⟨rfl, hB⟩

/-- The blocks in which a call's lists lie, with all that hangs on them. -/
def BlksC (x : Mc) (i : Nat) : Prop := (Value.slice x.ka x.keys.length x.kc).ownBlock = some i ∨ (Value.slice x.xa x.ctx.length x.xc).ownBlock = some i ∨ BlksOf (.slice x.ga x.got.length x.gc) (x.got.map anV) i ∨ (Value.slice x.na x.needs.length x.nc).ownBlock = some i
theorem OwnCall.blks {N : Nat} {w : World} {x : Mc} (h : OwnCall N w x) : ∀ i, BlksC x i → N ≤ i ∧ i < w.heap.size := by
  rintro i (hi | hi | (hi | ⟨m, hm, hi⟩) | hi)
  · exact h.ks.lt i hi
  · exact h.cx.lt i hi
  · exact h.gt.own.lt i hi
  · exact h.gt.inn.lt m hm i hi
  · exact h.nd.lt i hi
theorem But.grown {S : Nat → Prop} {a w w' : World} {row : Option Nat} (h : But S a w) (hg : w.grownBy w' row) (hs : ∀ i, row = some i → S i) : But S a w' := h.trans (But.of_grown hg hs)
set_option maxRecDepth 100000 in
set_option maxHeartbeats 4000000 in
theorem markCall_laws (x : Mc) (N : Nat) (w : World) (own : OwnCall N w x) (hf : FewC x) (hs : sizeA x.got ≤ 1048576) :
    Calls Try.prog 42 #[.agg #[.int .i64 x.client, .int .i64 x.num, .int .i64 x.kind, .slice x.ka x.keys.length x.kc, .int .i64 x.val, .slice x.xa x.ctx.length x.xc, .int .i64 x.beg, .int .i64 x.fin, .bool x.over, .int .i64 x.time, .int .i64 x.site, .slice x.ga x.got.length x.gc, .slice x.na x.needs.length x.nc], .int .i64 1] w fun e w' => ∃ r : Int, e = .returned (.int .i64 r) ∧ 0 ≤ r ∧ But (BlksC x) w w' := by
  have l1 := hf.ks
  have l2 := hf.cx
  have l4 := hf.nd
  have l3 : x.got.length + sumA x.got ≤ 1048576 := hs
  have BV := Blk.new w #[.int .i64 x.client, .int .i64 x.num, .int .i64 x.kind, .slice x.ka x.keys.length x.kc, .int .i64 x.val, .slice x.xa x.ctx.length x.xc, .int .i64 x.beg, .int .i64 x.fin, .bool x.over, .int .i64 x.time, .int .i64 x.site, .slice x.ga x.got.length x.gc, .slice x.na x.needs.length x.nc] 73
  have hbx := below_box w (.cells #[.int .i64 x.client, .int .i64 x.num, .int .i64 x.kind, .slice x.ka x.keys.length x.kc, .int .i64 x.val, .slice x.xa x.ctx.length x.xc, .int .i64 x.beg, .int .i64 x.fin, .bool x.over, .int .i64 x.time, .int .i64 x.site, .slice x.ga x.got.length x.gc, .slice x.na x.needs.length x.nc] 73)
  have hBt : But (BlksC x) w (w.alloc (.cells #[.int .i64 x.client, .int .i64 x.num, .int .i64 x.kind, .slice x.ka x.keys.length x.kc, .int .i64 x.val, .slice x.xa x.ctx.length x.xc, .int .i64 x.beg, .int .i64 x.fin, .bool x.over, .int .i64 x.time, .int .i64 x.site, .slice x.ga x.got.length x.gc, .slice x.na x.needs.length x.nc] 73)) := But.of_below hbx
  have hN : ∀ i, BlksC x i → i < w.heap.size := fun i hi => (own.blks i hi).2
  have hnb : ¬ BlksC x w.heap.size := fun h => by have := hN _ h; omega
  have oks := own_below own.ks hbx
  have ocx := own_below own.cx hbx
  have ogt := own.gt.below hbx
  have ond := own_below own.nd hbx
  have hcg := own.cg
  have hcn := own.cn
  have hgn := own.gn
  clear own
  obtain ⟨p0, p1, p2, p3, p4, p5, p6, p7, p8, p9, p10, p11, p12, pf, pl⟩ := BV.call
  go_enter Try.func42, Try.ntmps42
  go_wp2_with fail
  refine (markIntS_laws x.keys.length 1 x.ka x.kc N _ _ oks (by omega) (by omega)).mono ?_
  rintro e w1 ⟨rfl, hg1⟩
  have hBt := hBt.grown hg1 fun i hi => Or.inl hi
  have BV := BV.row hg1 (fun h => hnb (Or.inl h))
  have ocx := ocx.kept hg1 (own_types ocx oks (by decide))
  have ogt : OwnAns N w1 (.slice x.ga x.got.length x.gc) x.got := ⟨ogt.own.kept hg1 (own_types ogt.own oks (by decide)), fun m hm => (ogt.inn.row m hm).kept hg1 (own_types (ogt.inn.row m hm) oks (by decide)), ogt.inn.apart⟩
  have ond := ond.kept hg1 (own_types ond oks (by decide))
  clear p0 p1 p2 p3 p4 p5 p6 p7 p8 p9 p10 p11 p12 pf pl oks
  obtain ⟨p0, p1, p2, p3, p4, p5, p6, p7, p8, p9, p10, p11, p12, pf, pl⟩ := BV.call
  obtain ⟨k1, hk1⟩ : ∃ k1 : Int, k1 = 1 + (x.keys.length : Int) := ⟨_, rfl⟩
  rw [← hk1]
  have hka1 : 0 ≤ k1 := by omega
  have hkb1 : k1 ≤ 1048578 := by omega
  clear hk1
  go_wp2_with fail
  refine (markDepS_laws x.ctx.length k1 x.xa x.xc N _ _ ocx (by omega) (by omega) l2).mono ?_
  rintro e w2 ⟨rfl, -, hg2⟩
  have hBt := hBt.grown hg2 fun i hi => Or.inr (Or.inl hi)
  have BV := BV.row hg2 (fun h => hnb (Or.inr (Or.inl h)))
  have ogt : OwnAns N w2 (.slice x.ga x.got.length x.gc) x.got := ⟨ogt.own.kept hg2 (own_types ogt.own ocx (by decide)), fun m hm => (ogt.inn.row m hm).kept hg2 (by
      cases hb : blkOf m with
      | none => exact Or.inl hb
      | some b => exact Or.inr fun e => hcg b (e.symm.trans hb |> fun h => h) m hm hb), ogt.inn.apart⟩
  have ond := ond.kept hg2 (by
      cases hb : (Value.slice x.na x.needs.length x.nc).ownBlock with
      | none => exact Or.inl rfl
      | some b => exact Or.inr fun e => hcn b e.symm hb)
  clear p0 p1 p2 p3 p4 p5 p6 p7 p8 p9 p10 p11 p12 pf pl ocx
  obtain ⟨p0, p1, p2, p3, p4, p5, p6, p7, p8, p9, p10, p11, p12, pf, pl⟩ := BV.call
  obtain ⟨k2, hk2⟩ : ∃ k2 : Int, k2 = k1 + 3 * (x.ctx.length : Int) := ⟨_, rfl⟩
  rw [← hk2]
  have hka2 : 0 ≤ k2 := by omega
  have hkb2 : k2 ≤ 4194310 := by omega
  clear hk2
  go_wp2_with fail
  refine (markAnswerS_laws x.got k2 x.ga x.gc N _ ogt (by omega) (by omega) hf.gt).mono ?_
  rintro e w3 ⟨rfl, hb3⟩
  have hBt := hBt.trans (hb3.mono fun i hi => Or.inr (Or.inr (Or.inl hi)))
  have BV := BV.but hb3 (fun h => hnb (Or.inr (Or.inr (Or.inl h))))
  have ond := own_but ond hb3 (fun b hb hS => by
    rcases hS with h | ⟨m, hm, h⟩
    · rcases own_types ond ogt.own (by decide) with h' | h'
      · rw [h'] at hb; cases hb
      · exact h' (hb.trans h.symm)
    · exact hgn b m hm h hb)
  clear p0 p1 p2 p3 p4 p5 p6 p7 p8 p9 p10 p11 p12 pf pl ogt
  obtain ⟨p0, p1, p2, p3, p4, p5, p6, p7, p8, p9, p10, p11, p12, pf, pl⟩ := BV.call
  obtain ⟨k3, hk3⟩ : ∃ k3 : Int, k3 = k2 + 8 * (x.got.length : Int) + 3 * (sumA x.got : Int) := ⟨_, rfl⟩
  rw [← hk3]
  have hka3 : 0 ≤ k3 := by omega
  have hkb3 : k3 ≤ 20000000 := by omega
  clear hk3
  go_wp2_with fail
  refine (markDepS_laws x.needs.length k3 x.na x.nc N _ _ ond (by omega) (by omega) l4).mono ?_
  rintro e w4 ⟨rfl, -, hg4⟩
  have hBt := hBt.grown hg4 fun i hi => Or.inr (Or.inr (Or.inr hi))
  have hr : 0 ≤ k3 + 3 * (x.needs.length : Int) := by omega
  clear p0 p1 p2 p3 p4 p5 p6 p7 p8 p9 p10 p11 p12 pf pl ond
  go_wp2
  go_ret
  exact ⟨_, rfl, hr, hBt⟩
end Go.Proofs.Ythciikogogkfcaa
