/- Lists of versions that are marked: what they hold then, and which blocks have turned. No program in sight. -/
import Derived.Test.YthciikogogkfcaaVerO
import Derived.Test.YthciikogogkfcaaConvD
namespace Go.Proofs.Ythciikogogkfcaa
open Go.RowKit Go.Deep
set_option linter.unusedVariables false

/-- Nothing but some blocks has turned. -/
structure But (S : Nat → Prop) (w w' : World) : Prop where
  os : w'.os = w.os
  tape : w'.tape = w.tape
  output : w'.output = w.output
  size : w.heap.size ≤ w'.heap.size
  block : ∀ i, i < w.heap.size → ¬ S i → w'.heap[i]? = w.heap[i]?
theorem But.refl (S : Nat → Prop) (w : World) : But S w w := ⟨rfl, rfl, rfl, Nat.le_refl _, fun _ _ _ => rfl⟩
theorem But.trans {S : Nat → Prop} {a b c : World} (h : But S a b) (k : But S b c) : But S a c :=
  ⟨k.os.trans h.os, k.tape.trans h.tape, k.output.trans h.output, Nat.le_trans h.size k.size, fun i hi hn => (k.block i (Nat.lt_of_lt_of_le hi h.size) hn).trans (h.block i hi hn)⟩
theorem But.mono {S S' : Nat → Prop} {w w' : World} (h : But S w w') (hs : ∀ i, S i → S' i) : But S' w w' := ⟨h.os, h.tape, h.output, h.size, fun i hi hn => h.block i hi fun hS => hn (hs i hS)⟩
theorem But.of_grown {S : Nat → Prop} {w w' : World} {row : Option Nat} (h : w.grownBy w' row) (hs : ∀ i, row = some i → S i) : But S w w' := ⟨h.os, h.tape, h.output, h.size, fun i hi hn => h.block i hi fun e => hn (hs i e.symm)⟩
theorem But.of_below {S : Nat → Prop} {w w' : World} (h : Below w.heap.size w w') : But S w w' := ⟨h.os, h.tape, h.output, h.size, fun i hi _ => h.block i hi⟩
theorem But.set {S : Nat → Prop} {a w : World} {g o : Nat} (h : But S a w) (hg : S g) (u : Value) : But S a (w.setCell ⟨g, o, none⟩ u) :=
  ⟨h.os, h.tape, h.output, by simpa [World.setCell] using h.size, fun i hi hn => (Below.heap_setCell w ⟨g, o, none⟩ u i (by rintro rfl; exact hn hg)).trans (h.block i hi hn)⟩
theorem But.below {S : Nat → Prop} {a w w' : World} (h : Below a.heap.size a w) (hb : But S w w') (hS : ∀ i, S i → a.heap.size ≤ i) : Below a.heap.size a w' :=
  ⟨hb.os.trans h.os, hb.tape.trans h.tape, hb.output.trans h.output, Nat.le_trans h.size hb.size, fun i hi => (hb.block i (Nat.lt_of_lt_of_le hi h.size) fun hs => by have := hS i hs; omega).trans (h.block i hi)⟩
theorem own_but {S : Nat → Prop} {w w' : World} {N k n : Nat} {T : TypeId} {v : Value} {xs : List Value} (h : w.ownsRow N T k v n xs) (hb : But S w w') (hn : ∀ b, v.ownBlock = some b → ¬ S b) : w'.ownsRow N T k v n xs := by
  refine ⟨h.1, ?_⟩
  rcases h.2 with h' | ⟨g, cap, cur, rfl, hg, hh, r⟩
  · exact .inl h'
  · exact .inr ⟨g, cap, cur, rfl, hg, (hb.block g (Array.getElem?_eq_some_iff.1 hh).1 (hn g rfl)).trans hh, r⟩
theorem Blk.but {S : Nat → Prop} {w w' : World} {b : Nat} {cs : Array Value} {T : TypeId} (h : Blk w b cs T) (hb : But S w w') (hn : ¬ S b) : Blk w' b cs T := by
  have hl := h.lt
  unfold Blk at *; rw [hb.block b hl hn]; exact h
theorem own_types {w : World} {N M k k' n n' : Nat} {T T' : TypeId} {v v' : Value} {xs xs' : List Value} (h : w.ownsRow N T k v n xs) (h' : w.ownsRow M T' k' v' n' xs') (hT : T ≠ T') : v.ownBlock = none ∨ v.ownBlock ≠ v'.ownBlock := by
  rcases h.2 with ⟨rfl, _⟩ | ⟨g, cap, cur, rfl, hg, hh, r⟩
  · exact .inl rfl
  · rcases h'.2 with ⟨rfl, _⟩ | ⟨g', cap', cur', rfl, hg', hh', r'⟩
    · right; intro e; cases e
    · right
      intro e
      simp only [Value.ownBlock, Option.some.injEq] at e
      subst e
      rw [hh] at hh'
      simp only [Option.some.injEq, Obj.cells.injEq] at hh'
      exact hT hh'.2.1
/-- The blocks in which a list of versions lies, with all that hangs on it. -/
def BlksOf (v : Value) (l : List Mv) (i : Nat) : Prop := v.ownBlock = some i ∨ ∃ m ∈ l, blkOf m = some i
theorem OwnVers.blks {N : Nat} {w : World} {v : Value} {l : List Mv} (h : OwnVers N w v l) : ∀ i, BlksOf v l i → N ≤ i ∧ i < w.heap.size := by
  rintro i (hi | ⟨m, hm, hi⟩)
  · exact h.own.lt i hi
  · exact h.inn.lt m hm i hi
theorem OwnVers.but {S : Nat → Prop} {N : Nat} {w w' : World} {v : Value} {l : List Mv} (h : OwnVers N w v l) (hb : But S w w') (hn : ∀ i, BlksOf v l i → ¬ S i) : OwnVers N w' v l :=
  ⟨own_but h.own hb fun b e => hn b (.inl e), fun m hm => own_but (h.inn.row m hm) hb fun b e => hn b (.inr ⟨m, hm, e⟩), h.inn.apart⟩
theorem OwnIn.set' {N g o : Nat} {w : World} {l : List Mv} (h : OwnIn N w l) (hg : ∀ m ∈ l, blkOf m ≠ some g) (u : Value) : OwnIn N (w.setCell ⟨g, o, none⟩ u) l := ⟨fun m hm => own_set (h.row m hm) (hg m hm) u, h.apart⟩
theorem Apart.symm {x y : Mv} (h : Apart x y) : Apart y x := by
  unfold Apart at *
  cases hy : blkOf y with
  | none => exact .inl rfl
  | some b =>
    right
    rcases h with h | h
    · rw [h]; simp
    · intro e; exact h (by rw [hy, e])
/-- One among them has turned, in its place. -/
theorem OwnIn.turn {N : Nat} {w w' : World} {A B : List Mv} {m m' : Mv} (h : OwnIn N w (A ++ m :: B)) (hg : w.grownBy w' (blkOf m)) (hb : blkOf m' = blkOf m)
    (own : w'.ownsRow N 32 3 (.slice m'.a m'.v.deps.length m'.c) m'.v.deps.length (dpsC m'.v.deps)) : OwnIn N w' (A ++ m' :: B) := by
  have hp := h.apart
  rw [List.pairwise_append, List.pairwise_cons] at hp
  obtain ⟨pA, ⟨pm, pB⟩, pAB⟩ := hp
  refine ⟨fun x hx => ?_, ?_⟩
  · rcases List.mem_append.1 hx with hx | hx
    · exact (h.row x (by simp [hx])).kept hg (pAB x hx m (by simp))
    · rcases List.mem_cons.1 hx with rfl | hx
      · exact own
      · exact (h.row x (by simp [hx])).kept hg (pm x hx).symm
  · rw [List.pairwise_append, List.pairwise_cons]
    refine ⟨pA, ⟨fun y hy => ?_, pB⟩, fun x hx y hy => ?_⟩
    · have := pm y hy; unfold Apart at *; rwa [hb]
    · rcases List.mem_cons.1 hy with rfl | hy
      · have := pAB x hx m (by simp); unfold Apart at *; rwa [hb]
      · exact pAB x hx y (by simp [hy])
/-! What a marked list holds. -/
def markM (k : Int) (m : Mv) : Mv := ⟨⟨k, k + 1, k + 2, k + 3, k + 4, k + 5, marksD (k + 6) m.v.deps.length⟩, m.a, m.c⟩
def stepM (m : Mv) : Int := 6 + 3 * (m.v.deps.length : Int)
def marksM : Int → List Mv → List Mv
  | _, [] => []
  | k, m :: l => markM k m :: marksM (k + stepM m) l
def cntM (l : List Mv) : Int := 6 * (l.length : Int) + 3 * (sumD l : Int)
theorem cntM_nil : cntM [] = 0 := rfl
theorem cntM_cons (m : Mv) (l : List Mv) : cntM (m :: l) = stepM m + cntM l := by unfold cntM stepM sumD; simp only [List.length_cons, List.map_cons, List.sum_cons]; push_cast; omega
theorem cntM_nonneg (l : List Mv) : 0 ≤ cntM l := by unfold cntM; omega
theorem cntM_take (l : List Mv) (j : Nat) (h : j < l.length) : cntM (l.take (j + 1)) = cntM (l.take j) + stepM l[j] := by
  unfold cntM stepM; rw [sumD_take l j h, List.length_take, List.length_take]; push_cast; omega
theorem cntM_take_le (l : List Mv) (j : Nat) : cntM (l.take j) ≤ cntM l := by
  unfold cntM; have := sumD_take_le l j; have : (l.take j).length ≤ l.length := by rw [List.length_take]; omega
  omega
theorem marksM_len (k : Int) (l : List Mv) : (marksM k l).length = l.length := by
  induction l generalizing k with
  | nil => rfl
  | cons m l ih => simp [marksM, ih]
theorem marksM_snoc (k : Int) (l : List Mv) (m : Mv) : marksM k (l ++ [m]) = marksM k l ++ [markM (k + cntM l) m] := by
  induction l generalizing k with
  | nil => simp [marksM, cntM_nil]
  | cons x l ih => simp only [List.cons_append, marksM, ih, cntM_cons]; rw [Int.add_assoc]
theorem marksM_get (k : Int) (l : List Mv) (j : Nat) (h : j < l.length) : (marksM k l)[j]'(by rw [marksM_len]; exact h) = markM (k + cntM (l.take j)) l[j] := by
  induction l generalizing k j with
  | nil => simp at h
  | cons x l ih =>
    cases j with
    | zero => simp [marksM, cntM_nil]
    | succ j =>
      simp only [marksM, List.getElem_cons_succ, List.take_succ_cons]
      rw [ih (k + stepM x) j (by simpa using h), cntM_cons, Int.add_assoc]
theorem markM_len (k : Int) (m : Mv) : (markM k m).v.deps.length = m.v.deps.length := by simp [markM, marksD_len]
theorem markM_blk (k : Int) (m : Mv) : blkOf (markM k m) = blkOf m := by
  unfold blkOf; rw [markM_len]; rfl
theorem marksM_sum (k : Int) (l : List Mv) : sumD (marksM k l) = sumD l := by
  induction l generalizing k with
  | nil => rfl
  | cons m l ih => have := ih (k + stepM m); simp only [marksM, sumD, List.map_cons, List.sum_cons, markM_len] at this ⊢; omega
theorem mvsC_app (A B : List Mv) : mvsC (A ++ B) = mvsC A ++ mvsC B := by simp [mvsC]
theorem set_past {xs ys : List Value} {n : Nat} (h : xs.length = n) (i : Nat) (u : Value) : (xs ++ ys).set (n + i) u = xs ++ ys.set i u := by
  subst h; rw [List.set_append_right _ _ (by omega)]; simp
theorem set_past0 {xs ys : List Value} {n : Nat} (h : xs.length = n) (u : Value) : (xs ++ ys).set n u = xs ++ ys.set 0 u := set_past h 0 u
theorem mvs_mark (A B : List Mv) (m : Mv) (k : Int) {j : Nat} (hA : A.length = j) :
    ((((((mvsC (A ++ m :: B)).set (j * 7) (.int .i64 k)).set (j * 7 + 1) (.int .i64 (k + 1))).set (j * 7 + 2) (.int .i64 (k + 2))).set (j * 7 + 3) (.int .i64 (k + 3))).set (j * 7 + 4) (.int .i64 (k + 4))).set (j * 7 + 5) (.int .i64 (k + 5)) = mvsC (A ++ markM k m :: B) := by
  have hl : (mvsC A).length = j * 7 := by rw [mvsC_len, hA]
  rw [mvsC_app, mvsC_app, set_past0 hl, set_past hl, set_past hl, set_past hl, set_past hl, set_past hl]
  simp only [mvsC, List.flatMap_cons, mvC, markM, marksD_len]
  rfl
theorem mvs_mid (A B : List Mv) (m : Mv) {j : Nat} (hA : A.length = j) : (mvsC (A ++ m :: B))[j * 7]? = some (.int .i64 m.v.key) ∧ (mvsC (A ++ m :: B))[j * 7 + 1]? = some (.int .i64 m.v.time) ∧ (mvsC (A ++ m :: B))[j * 7 + 2]? = some (.int .i64 m.v.site) ∧ (mvsC (A ++ m :: B))[j * 7 + 3]? = some (.int .i64 m.v.val) ∧
    (mvsC (A ++ m :: B))[j * 7 + 4]? = some (.int .i64 m.v.client) ∧ (mvsC (A ++ m :: B))[j * 7 + 5]? = some (.int .i64 m.v.call) ∧ (mvsC (A ++ m :: B))[j * 7 + 6]? = some (.slice m.a m.v.deps.length m.c) := by
  subst hA
  have h := mvsC_get (A ++ m :: B) A.length (by simp)
  have e : (A ++ m :: B)[A.length]'(by simp) = m := by simp
  rw [e] at h
  exact h
theorem mvs_marks (A B : List Mv) (m : Mv) (q : Int) {j : Nat} (hA : A.length = j) :
    ((((((mvsC (A ++ m :: B)).set (j * 7) (.int .i64 q)).set (j * 7 + 1) (.int .i64 (q + 1))).set (j * 7 + 2) (.int .i64 (q + 1 + 1))).set (j * 7 + 3) (.int .i64 (q + 1 + 1 + 1))).set (j * 7 + 4) (.int .i64 (q + 1 + 1 + 1 + 1))).set (j * 7 + 5) (.int .i64 (q + 1 + 1 + 1 + 1 + 1)) = mvsC (A ++ markM q m :: B) := by
  have h := mvs_mark A B m q hA
  rw [show q + 2 = q + 1 + 1 by omega, show q + 3 = q + 1 + 1 + 1 by omega, show q + 4 = q + 1 + 1 + 1 + 1 by omega, show q + 5 = q + 1 + 1 + 1 + 1 + 1 by omega] at h
  exact h
/-- A list of versions of one's own has been marked. -/
def MarkedVs (N : Nat) (v : Value) (l : List Mv) (k : Int) (w : World) (e : Ending) (w' : World) : Prop :=
  e = .returned (.int .i64 (k + cntM l)) ∧ OwnVers N w' v (marksM k l) ∧ But (BlksOf v l) w w'
theorem marksM_blks {v : Value} {k : Int} {l : List Mv} {i : Nat} (h : BlksOf v (marksM k l) i) : BlksOf v l i := by
  rcases h with h | ⟨m, hm, h⟩
  · exact .inl h
  · right
    obtain ⟨j, hj, rfl⟩ := List.getElem_of_mem hm
    rw [marksM_len] at hj
    rw [marksM_get k l j hj, markM_blk] at h
    exact ⟨l[j], List.getElem_mem hj, h⟩
end Go.Proofs.Ythciikogogkfcaa
