/- Small facts on worlds: blocks that are known whole, what a callee has left alone, slices said of their cells. No program in sight. -/
import Derived.Test.YthciikogogkfcaaOver
import Derived.Laws.AppendOwn
import Derived.WalkSpells
import Derived.WalkLawsBesides
import Derived.Lib.Hide
import Derived.Laws.MakeOwn
import Derived.Deep.OwnRows
import Derived.RegionTactic
import Derived.OwnWalk
namespace Go.Proofs.Ythciikogogkfcaa
open Go.RowKit Go.Deep
set_option linter.unusedVariables false

theorem below_box (w : World) (o : Obj) : Below w.heap.size w (w.alloc o) := (Below.refl _ _).alloc (Nat.le_refl _) _
theorem below_box2 (w : World) (o p : Obj) : Below w.heap.size w ((w.alloc o).alloc p) := (below_box w o).trans ((below_box _ _).mono (by simp))
theorem set_same {w : World} {a : Addr} {u v : Value} (h : w.cell? a = some u) : (w.setCell a v).cell? a = some v := World.cell?_setCell_same w a v h
theorem set_other {w : World} {a b : Addr} {v : Value} (h : a ≠ b) : (w.setCell a v).cell? b = w.cell? b := World.cell?_setCell_other w a b v h
/-- A slice of bytes that can be read. -/
def BytesIn (w : World) (a : Option Addr) (len cap : Nat) : Prop :=
  len ≤ cap ∧ cap ≤ maxLen ∧ (0 < len → ∃ b off, a = some ⟨b, off, none⟩ ∧ b < w.heap.size ∧ ∀ i, i < len → ∃ z : Int, w.cell? ⟨b, off + i, none⟩ = some (.int .u8 z) ∧ 0 ≤ z ∧ z ≤ 255)

theorem grown_trans' {a b c : World} {row : Option Nat} (h : a.grownBy b row) (k : b.grownBy c row) : a.grownBy c row :=
  ⟨k.os.trans h.os, k.tape.trans h.tape, k.output.trans h.output, Nat.le_trans h.size k.size, fun i hi hn => (k.block i (Nat.lt_of_lt_of_le hi h.size) hn).trans (h.block i hi hn)⟩
theorem grown_of_below {a c : World} (k : Below a.heap.size a c) (row : Option Nat) : a.grownBy c row := ⟨k.os, k.tape, k.output, k.size, fun i hi _ => k.block i hi⟩

theorem only_drew {a w : World} {row : Option Nat} (h : a.grownBy w row) : a.grownBy w.drew row := ⟨h.os, h.tape, h.output, h.size, h.block⟩
theorem only_alloc {a w : World} {row : Option Nat} (h : a.grownBy w row) (o : Obj) : a.grownBy (w.alloc o) row :=
  ⟨h.os, h.tape, h.output, Nat.le_trans h.size (by simp), fun i hi hne => (Below.heap_alloc w o i (Nat.lt_of_lt_of_le hi h.size)).trans (h.block i hi hne)⟩
theorem only_setCell {a w : World} {g : Nat} (h : a.grownBy w (some g)) {p : Addr} (hp : p.block = g ∨ a.heap.size ≤ p.block) (u : Value) : a.grownBy (w.setCell p u) (some g) :=
  ⟨h.os, h.tape, h.output, by simpa [World.setCell] using h.size, fun i hi hne => (Below.heap_setCell w p u i (by
    rintro rfl
    rcases hp with hp | hp
    · exact hne (by rw [hp])
    · omega)).trans (h.block i hi hne)⟩
theorem only_refl (w : World) (row : Option Nat) : w.grownBy w row := ⟨rfl, rfl, rfl, Nat.le_refl _, fun _ _ _ => rfl⟩
/-- What stands in another block than g reads as it did. -/
theorem gcell {W w1 : World} {g : Nat} (hg : W.grownBy w1 (some g)) : (∀ b o, b < W.heap.size → b ≠ g → w1.cell? ⟨b, o, none⟩ = W.cell? ⟨b, o, none⟩) ∧ (∀ b o, b < W.heap.size → b ≠ g → w1.frozen? ⟨b, o, none⟩ = W.frozen? ⟨b, o, none⟩) ∧
    (∀ b, b < W.heap.size → b < w1.heap.size) ∧ (∀ b, b ≤ W.heap.size → b ≤ w1.heap.size) :=
  ⟨fun b o h hn => World.cell?_of_block (w := W) (hg.block b h (by simpa using hn)), fun b o h hn => World.frozen?_of_block (w := W) (hg.block b h (by simpa using hn)),
    fun _ h => Nat.lt_of_lt_of_le h hg.size, fun _ h => Nat.le_trans h hg.size⟩
theorem only_setb {a w : World} {g : Nat} (h : a.grownBy w (some g)) {b o : Nat} (hp : a.heap.size ≤ b) (u : Value) : a.grownBy (w.setCell ⟨b, o, none⟩ u) (some g) := only_setCell h (p := ⟨b, o, none⟩) (Or.inr hp) u
/-- Block b, whole, none of it frozen. -/
def Blk (w : World) (b : Nat) (cs : Array Value) (T : TypeId) : Prop := w.heap[b]? = some (.cells cs T (0, 0))
theorem Blk.lt {w : World} {b : Nat} {cs : Array Value} {T : TypeId} (h : Blk w b cs T) : b < w.heap.size := (Array.getElem?_eq_some_iff.1 h).1
theorem Blk.new (w : World) (cs : Array Value) (T : TypeId) : Blk (w.alloc (.cells cs T)) w.heap.size cs T := by
  show (w.heap.push _)[w.heap.size]? = _
  simp
theorem Blk.cell {w : World} {b : Nat} {cs : Array Value} {T : TypeId} (h : Blk w b cs T) (i : Nat) {v : Value} (hi : cs[i]? = some v) : w.cell? ⟨b, i, none⟩ = some v := by
  unfold Blk at h; simp [World.cell?, h, hi]
theorem Blk.free {w : World} {b : Nat} {cs : Array Value} {T : TypeId} (h : Blk w b cs T) (o : Nat) : w.frozen? ⟨b, o, none⟩ = false := by
  unfold Blk at h; simp [World.frozen?, h]
theorem Blk.grown {w w' : World} {b g : Nat} {cs : Array Value} {T : TypeId} (h : Blk w b cs T) (hg : w.grownBy w' (some g)) (hn : b ≠ g) : Blk w' b cs T := by
  have hl := h.lt
  unfold Blk at *; rw [hg.block b hl (by simpa using hn)]; exact h
theorem Blk.below {w w' : World} {b N : Nat} {cs : Array Value} {T : TypeId} (h : Blk w b cs T) (hg : Below N w w') (hn : b < N) : Blk w' b cs T := by
  unfold Blk at *; rw [hg.block b hn]; exact h
theorem Blk.alloc {w : World} {b : Nat} {cs : Array Value} {T : TypeId} (h : Blk w b cs T) (o : Obj) : Blk (w.alloc o) b cs T := h.below (below_box w o) h.lt
theorem Blk.one {w : World} {b : Nat} {x : Value} {T : TypeId} (h : Blk w b #[x] T) : w.cell? ⟨b, 0, none⟩ = some x ∧ (∀ o, w.frozen? ⟨b, o, none⟩ = false) ∧ b < w.heap.size := ⟨h.cell 0 rfl, h.free, h.lt⟩
theorem Blk.two {w : World} {b : Nat} {x y : Value} {T : TypeId} (h : Blk w b #[x, y] T) : w.cell? ⟨b, 0, none⟩ = some x ∧ w.cell? ⟨b, 1, none⟩ = some y ∧ (∀ o, w.frozen? ⟨b, o, none⟩ = false) ∧ b < w.heap.size := ⟨h.cell 0 rfl, h.cell 1 rfl, h.free, h.lt⟩
theorem Blk.three {w : World} {b : Nat} {x y z : Value} {T : TypeId} (h : Blk w b #[x, y, z] T) : w.cell? ⟨b, 0, none⟩ = some x ∧ w.cell? ⟨b, 1, none⟩ = some y ∧ w.cell? ⟨b, 2, none⟩ = some z ∧ (∀ o, w.frozen? ⟨b, o, none⟩ = false) ∧ b < w.heap.size := ⟨h.cell 0 rfl, h.cell 1 rfl, h.cell 2 rfl, h.free, h.lt⟩

theorem below_grown {a w w' : World} {g : Nat} (h : Below a.heap.size a w) (hg : w.grownBy w' (some g)) (hB : a.heap.size ≤ g) : Below a.heap.size a w' :=
  h.grown hg h.size (fun k hk => by simp only [Option.some.injEq] at hk; omega)
theorem BytesIn.below {{a : Option Addr}} {{len cap : Nat}} {{w w' : World}} (h : BytesIn w a len cap) (hb : Below w.heap.size w w') : BytesIn w' a len cap := by
  obtain ⟨h1, h2, h3⟩ := h
  refine ⟨h1, h2, fun hp => ?_⟩
  obtain ⟨b, off, rfl, hb1, hz⟩ := h3 hp
  refine ⟨b, off, rfl, Nat.lt_of_lt_of_le hb1 hb.size, fun i hi => ?_⟩
  obtain ⟨z, hz1, hz2⟩ := hz i hi
  exact ⟨z, by rw [hb.cell (p := ⟨b, off + i, none⟩) hb1]; exact hz1, hz2⟩
theorem BytesIn.alloc {{a : Option Addr}} {{len cap : Nat}} {{w : World}} (h : BytesIn w a len cap) (o : Obj) : BytesIn (w.alloc o) a len cap := h.below (below_box w o)
theorem below_setb {{a w : World}} (h : Below a.heap.size a w) {{b o : Nat}} (hp : a.heap.size ≤ b) (u : Value) : Below a.heap.size a (w.setCell ⟨b, o, none⟩ u) := h.setCell (p := ⟨b, o, none⟩) hp u/-- A slice of n elements whose cells, one behind the other, are xs. -/
def Reads (w : World) (a : Option Addr) (n cap : Nat) (xs : List Value) : Prop :=
  n ≤ cap ∧ cap ≤ maxLen ∧ (xs ≠ [] → ∃ b off, a = some ⟨b, off, none⟩ ∧ b < w.heap.size ∧ ∀ j u, xs[j]? = some u → w.cell? ⟨b, off + j, none⟩ = some u)
theorem Reads.below {w w' : World} {a : Option Addr} {n cap : Nat} {xs : List Value} (h : Reads w a n cap xs) (hb : Below w.heap.size w w') : Reads w' a n cap xs := by
  obtain ⟨h1, h2, h3⟩ := h
  refine ⟨h1, h2, fun hp => ?_⟩
  obtain ⟨b, off, rfl, hb1, hz⟩ := h3 hp
  exact ⟨b, off, rfl, Nat.lt_of_lt_of_le hb1 hb.size, fun j u hj => by rw [hb.cell (p := ⟨b, off + j, none⟩) hb1]; exact hz j u hj⟩
theorem Reads.alloc {w : World} {a : Option Addr} {n cap : Nat} {xs : List Value} (h : Reads w a n cap xs) (o : Obj) : Reads (w.alloc o) a n cap xs := h.below (below_box w o)
theorem Reads.len {w : World} {a : Option Addr} {n cap : Nat} {xs : List Value} (h : Reads w a n cap xs) : n ≤ 9223372036854775807 := by
  obtain ⟨h1, h2, _⟩ := h; unfold maxLen at h2; omega
theorem Reads.of_owns {w : World} {N k n : Nat} {T : TypeId} {v : Value} {xs : List Value} (h : w.ownsRow N T k v n xs) : ∃ a cap, v = .slice a n cap ∧ Reads w a n cap xs := by
  obtain ⟨h1, h2⟩ := h
  rcases h2 with ⟨rfl, rfl⟩ | ⟨g, cap, cur, rfl, hg, hh, hn, hm, hs, ht⟩
  · refine ⟨none, 0, rfl, Nat.le_refl _, by simp, fun hp => ?_⟩
    simp at h1; exact absurd h1 hp
  · refine ⟨_, cap, rfl, hn, hm, fun hp => ⟨g, 0, rfl, (Array.getElem?_eq_some_iff.1 hh).1, fun j u hj => ?_⟩⟩
    rw [← ht] at hj
    rw [List.getElem?_take] at hj
    have hj' : cur.toList[j]? = some u := by split at hj <;> simp_all
    rw [Nat.zero_add]
    exact Blk.cell (T := T) (show Blk w g cur T from hh) j (by simpa using hj')

/-- Two cells an element. -/
def stC (p : Int × Int) : List Value := [.int .i64 p.1, .int .i64 p.2]
def stsC (l : List (Int × Int)) : List Value := l.flatMap stC
theorem stsC_len (l : List (Int × Int)) : (stsC l).length = l.length * 2 := by
  induction l with
  | nil => rfl
  | cons p l ih => simp [stsC, stC] at ih ⊢; omega
theorem stsC_get (l : List (Int × Int)) (i : Nat) (h : i < l.length) : (stsC l)[i * 2]? = some (.int .i64 l[i].1) ∧ (stsC l)[i * 2 + 1]? = some (.int .i64 l[i].2) := by
  induction l generalizing i with
  | nil => simp at h
  | cons p l ih =>
    cases i with
    | zero => simp [stsC, stC]
    | succ i =>
      have := ih i (by simpa using h)
      have e1 : (i + 1) * 2 = (i * 2) + 1 + 1 := by omega
      simp only [stsC, List.flatMap_cons, stC, List.cons_append, List.nil_append, e1, List.getElem?_cons_succ, List.getElem_cons_succ] at this ⊢
      exact this
theorem stsC_ne {l : List (Int × Int)} (h : 0 < l.length) : stsC l ≠ [] := by
  intro e; have := stsC_len l; rw [e] at this; simp at this; omega
theorem grown_belowN {w w' : World} {row : Option Nat} {N : Nat} (hg : w.grownBy w' row) (hN : N ≤ w.heap.size) (h : ∀ k, row = some k → N ≤ k) : Below N w w' := (Below.refl N w).grown hg hN h
theorem own_grown {w w' : World} {N g k n : Nat} {T : TypeId} {v : Value} {xs : List Value} (h : w.ownsRow N T k v n xs) (hg : w.grownBy w' (some g)) (hn : g < N) : w'.ownsRow N T k v n xs :=
  h.kept hg (by
    cases hv : v.ownBlock with
    | none => exact .inl rfl
    | some j => right; intro e; have := (h.lt j hv).1; simp only [Option.some.injEq] at e; omega)
theorem own_below {w w' : World} {N k n : Nat} {T : TypeId} {v : Value} {xs : List Value} (h : w.ownsRow N T k v n xs) (hb : Below w.heap.size w w') : w'.ownsRow N T k v n xs :=
  h.kept (grown_of_below hb none) (by cases hv : v.ownBlock <;> simp)
/-- Behind an append to a slice of one's own, whose block lies from N on. -/
theorem below_app {a w w' : World} {N M k n : Nat} {T : TypeId} {v : Value} {xs : List Value} (h : Below N a w) (own : w.ownsRow M T k v n xs) (hg : w.grownBy w' v.ownBlock) (hN : N ≤ M) (hM : M ≤ w.heap.size) : Below N a w' :=
  h.grown hg (Nat.le_trans hN hM) (fun j hj => Nat.le_trans hN (own.lt j hj).1)
theorem cell_two_at (w : World) (x y : Value) (T : TypeId) : ∀ j u, [x, y][j]? = some u → (w.alloc (.cells #[x, y] T)).cell? ((⟨w.heap.size, 0, none⟩ : Addr).add j) = some u := by
  intro j u hj
  match j with
  | 0 => simp at hj; subst hj; exact (Blk.new w #[x, y] T).cell 0 rfl
  | 1 => simp at hj; subst hj; exact (Blk.new w #[x, y] T).cell 1 rfl
  | j + 2 => simp at hj
/-! A row that is filled from its head. -/
theorem run_make_rowN {P : Program} (t e : TypeId) (i : TypeInfo) (z : Value) (ht : P.underlying t = some (.slice e)) (hi : P.info? e = some i) (hz : i.zero = some z)
    (kl kc : IntKind) (n c : Nat) (hnc : n ≤ c) (hbytes : i.bytes * c ≤ 281474976710656) (h63 : c ≤ 9223372036854775807) (w : World) :
    (Instr.makeSlice t (.int kl (n : Int)) (.int kc (c : Int))).run P w = .ok (.slice (some ⟨w.heap.size, 0, none⟩) n c) (w.alloc (.cells (madeCells z.cells (c * i.size)) e)) := by
  have hb : (i.bytes : Int) * (c : Int) ≤ 281474976710656 := by
    have h : ((i.bytes * c : Nat) : Int) ≤ 281474976710656 := by omega
    rwa [Int.natCast_mul] at h
  have hr := run_make (P := P) (w := w) t e i z ht hi hz kl kc n c (by omega) (by omega) hb (by omega)
  simp only [Int.toNat_natCast] at hr
  exact hr
def fillF (xs : List Value) (z : Array Value) (m : Nat) (j : Nat) : Value := if j < m then xs.getD j undef else z[j % z.size]!
theorem row_made (w : World) (xs : List Value) (z : Array Value) (n : Nat) (T : TypeId) : (w.alloc (.cells (madeCells z n) T)).rowIs w.heap.size T n (fillF xs z 0) := by
  have h := World.rowIs_alloc w (madeCells z n) T (fillF xs z 0) (fun i hi => by
    rw [size_madeCells] at hi
    simp [madeCells, fillF, hi])
  rwa [size_madeCells] at h
theorem row_fill1 {w : World} {b N m : Nat} {T : TypeId} {xs : List Value} {z : Array Value} (h : w.rowIs b T N (fillF xs z m)) {x : Value} (hx : xs[m]? = some x) : (w.setCell ⟨b, m, none⟩ x).rowIs b T N (fillF xs z (m + 1)) :=
  (h.set m x).congr fun i _ => by
    unfold fillF
    by_cases h1 : i = m
    · subst h1
      rw [if_pos rfl, if_pos (by omega), List.getD_eq_getElem?_getD, hx]; rfl
    · rw [if_neg h1]
      by_cases h2 : i < m
      · rw [if_pos h2, if_pos (by omega)]
      · rw [if_neg h2, if_neg (by omega)]
theorem row_owns {w : World} {B b n k : Nat} {T : TypeId} {xs : List Value} {z : Array Value} (h : w.rowIs b T (n * k) (fillF xs z (n * k))) (hx : xs.length = n * k) (hB : B ≤ b) (hn : n ≤ maxLen) : w.ownsRow B T k (.slice (some ⟨b, 0, none⟩) n n) n xs := by
  refine ⟨hx, .inr ?_⟩
  obtain ⟨cur, hh, hs, hc⟩ := h
  refine ⟨b, n, cur, rfl, hB, hh, Nat.le_refl _, hn, hs, ?_⟩
  apply List.ext_getElem?
  intro j
  by_cases hj : j < n * k
  · rw [List.getElem?_take, if_pos hj]
    have := hc j hj
    rw [Array.getElem?_toList, this, fillF, if_pos hj, List.getD_eq_getElem?_getD, List.getElem?_eq_getElem (by omega)]; rfl
  · rw [List.getElem?_eq_none (by simp; omega), List.getElem?_eq_none (by omega)]
/-! An append of a slice that may be nil. -/
section
variable {P : Program} (w : World)
theorem run_append_of_nil (base : Nat) (t ty e : TypeId) (i : TypeInfo) (size : Nat) (ht : P.underlying t = some (.slice e)) (hi : P.info? e = some i)
    (v : Value) (n : Nat) (xs : List Value) (hown : w.ownsRow base e size v n xs) (c : Nat) : (Builtin.append_ #[t, t] ty #[v, .slice none 0 c]).run P w = .ok v w := by
  rcases hown.2 with ⟨rfl, rfl⟩ | ⟨g, cap, cur, rfl, _, _, hnc, _⟩
  · simp [Builtin.append_, run_underlying ht, sizeOf, typeInfo, hi, Builtin.lenOf, Builtin.firstCells]
  · simp [Builtin.append_, run_underlying ht, sizeOf, typeInfo, hi, Builtin.lenOf, Builtin.firstCells, hnc, storeCells]
theorem run_append_src (base : Nat) (t ty e : TypeId) (i : TypeInfo) (z : Value) (size bytes : Nat) (ht : P.underlying t = some (.slice e)) (hi : P.info? e = some i) (hz : i.zero = some z)
    (hsize : i.size = size) (hby : i.bytes = bytes) (hzs : z.cells.size = size) (hsz : 0 < size)
    (v : Value) (n : Nat) (xs : List Value) (hown : w.ownsRow base e size v n xs)
    (A : Option Addr) (m c : Nat) (news : List Value) (hl : news.length = m * size) (hr : Reads w A m c news) (h1 : ∀ u ∈ news, u.oneCell' = true)
    (h63 : n + m ≤ maxLen) (hbytes : (n + m) * bytes ≤ 140737488355328) (hbase : base ≤ w.heap.size) :
    ∃ v' w', (Builtin.append_ #[t, t] ty #[v, .slice A m c]).run P w = .ok v' w' ∧ w'.ownsRow base e size v' (n + m) (xs ++ news) ∧ w.grownBy w' v.ownBlock := by
  rcases A with _ | ad
  · have hn : news = [] := by
      rcases Classical.em (news = []) with h | h
      · exact h
      · obtain ⟨_, _, h, _⟩ := hr.2.2 h; cases h
    subst hn
    have hm : m = 0 := by
      simp only [List.length_nil] at hl
      rcases Nat.eq_zero_or_pos m with h0 | h0
      · exact h0
      · have := Nat.mul_pos h0 hsz; omega
    subst hm
    exact ⟨v, w, run_append_of_nil w base t ty e i size ht hi v n xs hown c, by simpa using hown, ⟨rfl, rfl, rfl, Nat.le_refl _, fun _ _ _ => rfl⟩⟩
  · have hcells : ∀ j u, news[j]? = some u → w.cell? (ad.add j) = some u := by
      intro j u hu
      have hne : news ≠ [] := by rintro rfl; simp at hu
      obtain ⟨b, off, h, _, hc⟩ := hr.2.2 hne
      simp only [Option.some.injEq] at h
      subst h
      have e : (⟨b, off, none⟩ : Addr).add j = ⟨b, off + j, none⟩ := by
        unfold Addr.add; split
        · rename_i h; subst h; rfl
        · rfl
      rw [e]; exact hc j u hu
    obtain ⟨v', w', hrun, h2, h3, _⟩ := run_append_own (P := P) (w := w) base t ty e i z size bytes ht hi hz hsize hby hzs hsz v n xs hown ad m c news hl hcells h1 h63 hbytes hbase
    exact ⟨v', w', hrun, h2, h3⟩
theorem wpList_append_src {ops : Array Oper} {rest : List Oper} {o : Oper} {a : Act} {Q : Exit → Act → World → Prop} (hgd : o.guard = none) (s x : Operand) (t : TypeId)
    (ho : o.op = .call { callee := .builtin .append, args := #[s, x], argTypes := #[t, t] })
    (base : Nat) (e : TypeId) (i : TypeInfo) (z : Value) (size bytes : Nat) (ht : P.underlying t = some (.slice e)) (hi : P.info? e = some i) (hz : i.zero = some z)
    (hsize : i.size = size) (hby : i.bytes = bytes) (hzs : z.cells.size = size) (hsz : 0 < size)
    (v : Value) (n : Nat) (xs : List Value) (hs : a.eval s = v) (hown : w.ownsRow base e size v n xs)
    (A : Option Addr) (m c : Nat) (news : List Value) (hx : a.eval x = .slice A m c) (hl : news.length = m * size) (hr : Reads w A m c news) (h1 : ∀ u ∈ news, u.oneCell' = true)
    (h63 : n + m ≤ maxLen) (hbytes : (n + m) * bytes ≤ 140737488355328) (hbase : base ≤ w.heap.size)
    (h : ∀ v' w', w'.ownsRow base e size v' (n + m) (xs ++ news) → w.grownBy w' v.ownBlock → wpList P ops Q rest (a.put o.dst v') w') : wpList P ops Q (o :: rest) a w :=
  wpList_plain hgd fun _ hK => by
    obtain ⟨v', w', hrun, h2, h3⟩ := run_append_src (P := P) w base t o.type e i z size bytes ht hi hz hsize hby hzs hsz v n xs hown A m c news hl hr h1 h63 hbytes hbase
    unfold Oper.wp execOp
    simp only [ho, resolve, invoke, builtin, Sem.run_bind, Sem.run_pure, Result.andThen_ok, List.map_toArray, List.map_cons, List.map_nil, hs, hx, hrun]
    exact hK _ _ (h v' w' h2 h3)
end
theorem stsC_one (l : List (Int × Int)) : ∀ u ∈ stsC l, u.oneCell' = true := by
  intro u hu
  simp only [stsC, List.mem_flatMap, stC, List.mem_cons, List.not_mem_nil, or_false] at hu
  obtain ⟨p, _, rfl | rfl⟩ := hu <;> rfl
/-- A contract's Bool, known. -/
theorem bool_is {P : Program} {f : FuncId} {args : Array Value} {w : World} {b c : Bool} {R : World → Prop} (h : b = c) (hc : Calls P f args w fun e w' => e = .returned (.bool b) ∧ R w') : Calls P f args w fun e w' => e = .returned (.bool c) ∧ R w' := h ▸ hc
theorem cell_three_at (w : World) (x y z : Value) (T : TypeId) {b : Nat} (hb : b = w.heap.size) : ∀ j u, [x, y, z][j]? = some u → (w.alloc (.cells #[x, y, z] T)).cell? ((⟨b, 0, none⟩ : Addr).add j) = some u := by
  subst hb
  intro j u hj
  match j with
  | 0 => simp at hj; subst hj; exact (Blk.new w #[x, y, z] T).cell 0 rfl
  | 1 => simp at hj; subst hj; exact (Blk.new w #[x, y, z] T).cell 1 rfl
  | 2 => simp at hj; subst hj; exact (Blk.new w #[x, y, z] T).cell 2 rfl
  | j + 3 => simp at hj
theorem one_three (a b c : Int) : ∀ u ∈ [Value.int .i64 a, .int .i64 b, .int .i64 c], u.oneCell' = true := by
  intro u hu
  simp only [List.mem_cons, List.not_mem_nil, or_false] at hu
  rcases hu with rfl | rfl | rfl <;> rfl
/-- A store into a block that is known whole. -/
theorem Blk.setb {w : World} {b b' o : Nat} {cs : Array Value} {T : TypeId} (h : Blk w b cs T) (hn : b ≠ b') (u : Value) : Blk (w.setCell ⟨b', o, none⟩ u) b cs T := by
  unfold Blk at *; rw [Below.heap_setCell _ _ _ _ (by simpa using hn)]; exact h
theorem own_ne {w : World} {N k n b : Nat} {T : TypeId} {v : Value} {xs : List Value} (h : w.ownsRow N T k v n xs) (hb : w.heap.size ≤ b) : v.ownBlock ≠ some b := by
  intro e; have := (h.lt b e).2; omega
theorem Blk.row {w w' : World} {b : Nat} {row : Option Nat} {cs : Array Value} {T : TypeId} (h : Blk w b cs T) (hg : w.grownBy w' row) (hn : row ≠ some b) : Blk w' b cs T := by
  have hl := h.lt
  unfold Blk at *; rw [hg.block b hl (fun e => hn e.symm)]; exact h
theorem own_set {w : World} {N k n b o : Nat} {T : TypeId} {v : Value} {xs : List Value} (h : w.ownsRow N T k v n xs) (hn : v.ownBlock ≠ some b) (u : Value) : (w.setCell ⟨b, o, none⟩ u).ownsRow N T k v n xs :=
  h.kept (row := some b) ⟨rfl, rfl, rfl, by simp [World.setCell], fun j _ hne => Below.heap_setCell _ _ _ _ (by simpa using hne)⟩ (by
    cases hv : v.ownBlock with
    | none => exact .inl rfl
    | some j => right; rw [hv] at hn; exact hn)
theorem own_base {w : World} {N M k n : Nat} {T : TypeId} {v : Value} {xs : List Value} (h : w.ownsRow N T k v n xs) (hM : M ≤ N) : w.ownsRow M T k v n xs := by
  refine ⟨h.1, ?_⟩
  rcases h.2 with h | ⟨g, cap, cur, h1, h2, h3⟩
  · exact .inl h
  · exact .inr ⟨g, cap, cur, h1, Nat.le_trans hM h2, h3⟩
theorem below_setN {N : Nat} {a w : World} (h : Below N a w) {b o : Nat} (hp : N ≤ b) (u : Value) : Below N a (w.setCell ⟨b, o, none⟩ u) := h.setCell (p := ⟨b, o, none⟩) hp u
theorem cells3 {w w' : World} {b o0 o1 o2 : Nat} {x y z : Value} (hb : Below w.heap.size w w') (hl : b < w.heap.size) (h0 : w.cell? ⟨b, o0, none⟩ = some x) (h1 : w.cell? ⟨b, o1, none⟩ = some y) (h2 : w.cell? ⟨b, o2, none⟩ = some z) :
    w'.cell? ⟨b, o0, none⟩ = some x ∧ w'.cell? ⟨b, o1, none⟩ = some y ∧ w'.cell? ⟨b, o2, none⟩ = some z ∧ b < w'.heap.size :=
  ⟨by rw [hb.cell (p := ⟨b, o0, none⟩) hl]; exact h0, by rw [hb.cell (p := ⟨b, o1, none⟩) hl]; exact h1, by rw [hb.cell (p := ⟨b, o2, none⟩) hl]; exact h2, Nat.lt_of_lt_of_le hl hb.size⟩
theorem cellsN {N : Nat} {w w' : World} {b o0 o1 o2 : Nat} {x y z : Value} (hb : Below N w w') (hN : b < N) (hl : b < w.heap.size) (h0 : w.cell? ⟨b, o0, none⟩ = some x) (h1 : w.cell? ⟨b, o1, none⟩ = some y) (h2 : w.cell? ⟨b, o2, none⟩ = some z) :
    w'.cell? ⟨b, o0, none⟩ = some x ∧ w'.cell? ⟨b, o1, none⟩ = some y ∧ w'.cell? ⟨b, o2, none⟩ = some z ∧ b < w'.heap.size :=
  ⟨by rw [hb.cell (p := ⟨b, o0, none⟩) hN]; exact h0, by rw [hb.cell (p := ⟨b, o1, none⟩) hN]; exact h1, by rw [hb.cell (p := ⟨b, o2, none⟩) hN]; exact h2, Nat.lt_of_lt_of_le hl hb.size⟩
theorem own_ne' {w : World} {N k n b : Nat} {T : TypeId} {v : Value} {xs : List Value} (h : w.ownsRow N T k v n xs) (hb : b < N) : v.ownBlock ≠ some b := by
  intro e; have := (h.lt b e).1; omega
theorem Blk.set {w : World} {b : Nat} {cs : Array Value} {T : TypeId} (h : Blk w b cs T) (i : Nat) (u : Value) : Blk (w.setCell ⟨b, i, none⟩ u) b (cs.setIfInBounds i u) T := by
  unfold Blk at *
  simp only [World.setCell, Array.getElem?_modify, h, if_true, Option.map_some, Option.isSome_none, Bool.false_eq_true, if_false]
theorem Blk.set3 {w : World} {b : Nat} {x y z : Value} {T : TypeId} (h : Blk w b #[x, y, z] T) (x' y' z' : Value) : Blk (((w.setCell ⟨b, 0, none⟩ x').setCell ⟨b, 1, none⟩ y').setCell ⟨b, 2, none⟩ z') b #[x', y', z'] T := ((h.set 0 x').set 1 y').set 2 z'
theorem cells3_set {w : World} {b c o o0 o1 o2 : Nat} {x y z : Value} (hn : c ≠ b) (u : Value) (h0 : w.cell? ⟨b, o0, none⟩ = some x) (h1 : w.cell? ⟨b, o1, none⟩ = some y) (h2 : w.cell? ⟨b, o2, none⟩ = some z) :
    (w.setCell ⟨c, o, none⟩ u).cell? ⟨b, o0, none⟩ = some x ∧ (w.setCell ⟨c, o, none⟩ u).cell? ⟨b, o1, none⟩ = some y ∧ (w.setCell ⟨c, o, none⟩ u).cell? ⟨b, o2, none⟩ = some z :=
  ⟨by rw [set_other (fun e => hn (congrArg Addr.block e))]; exact h0, by rw [set_other (fun e => hn (congrArg Addr.block e))]; exact h1, by rw [set_other (fun e => hn (congrArg Addr.block e))]; exact h2⟩
theorem int_eq {a b : Int} (h : a = b) : Value.int .i64 a = .int .i64 b := by rw [h]
theorem ret_int {a b : Int} (h : a = b) : Ending.returned (.int .i64 a) = .returned (.int .i64 b) := by rw [h]
theorem row_owns2 {w : World} {B b n cap k : Nat} {T : TypeId} {xs : List Value} {z : Array Value} (h : w.rowIs b T (cap * k) (fillF xs z (n * k))) (hx : xs.length = n * k) (hB : B ≤ b) (hn : n ≤ cap) (hm : cap ≤ maxLen) : w.ownsRow B T k (.slice (some ⟨b, 0, none⟩) n cap) n xs := by
  refine ⟨hx, .inr ?_⟩
  obtain ⟨cur, hh, hs, hc⟩ := h
  refine ⟨b, cap, cur, rfl, hB, hh, hn, hm, hs, ?_⟩
  have hnk : n * k ≤ cap * k := Nat.mul_le_mul_right k hn
  apply List.ext_getElem?
  intro j
  by_cases hj : j < n * k
  · rw [List.getElem?_take, if_pos hj]
    have := hc j (by omega)
    rw [Array.getElem?_toList, this, fillF, if_pos hj, List.getD_eq_getElem?_getD, List.getElem?_eq_getElem (by omega)]; rfl
  · rw [List.getElem?_eq_none (by simp; omega), List.getElem?_eq_none (by omega)]
theorem row_of_cells {w : World} {b : Nat} {T : TypeId} {cur : Array Value} (h : w.heap[b]? = some (.cells cur T (0, 0))) (xs : List Value) : w.rowIs b T cur.size (fillF xs cur 0) :=
  ⟨cur, h, rfl, fun i hi => by
    unfold fillF
    rw [if_neg (by omega), Nat.mod_eq_of_lt hi]
    simp [hi]⟩
theorem Reads.own {w : World} {N k n cap : Nat} {T : TypeId} {a : Option Addr} {xs : List Value} (h : w.ownsRow N T k (.slice a n cap) n xs) : Reads w a n cap xs := by
  obtain ⟨a', cap', e, hr⟩ := Reads.of_owns h
  simp only [Value.slice.injEq] at e
  obtain ⟨rfl, -, rfl⟩ := e
  exact hr
/-- Two lists of which the one was there before the other was made. -/
theorem own_apart {wA wB : World} {N M k k' n n' : Nat} {T T' : TypeId} {v v' : Value} {xs xs' : List Value} (h : wA.ownsRow N T k v n xs) (h' : wB.ownsRow M T' k' v' n' xs') (hM : wA.heap.size ≤ M) : v.ownBlock = none ∨ v.ownBlock ≠ v'.ownBlock := by
  cases hv : v.ownBlock with
  | none => exact .inl rfl
  | some j =>
    right; intro e
    have h1 := (h.lt j hv).2
    have h2 := (h'.lt j e.symm).1
    omega
theorem own_apart' {wA wB : World} {N M k k' n n' : Nat} {T T' : TypeId} {v v' : Value} {xs xs' : List Value} (h : wA.ownsRow N T k v n xs) (h' : wB.ownsRow M T' k' v' n' xs') (hM : wA.heap.size ≤ M) : v'.ownBlock = none ∨ v'.ownBlock ≠ v.ownBlock := by
  cases hv : v'.ownBlock with
  | none => exact .inl rfl
  | some j =>
    right; intro e
    have h1 := (h.lt j e.symm).2
    have h2 := (h'.lt j hv).1
    omega
theorem Blk.drew {w : World} {b : Nat} {cs : Array Value} {T : TypeId} (h : Blk w b cs T) : Blk w.drew b cs T := h
/-- Behind a mark of a list of one's own. -/
theorem below_mark {a w w' : World} {N k n : Nat} {T : TypeId} {v : Value} {xs : List Value} (h : Below a.heap.size a w) (own : w.ownsRow N T k v n xs) (hg : w.grownBy w' v.ownBlock) (hN : a.heap.size ≤ N) : Below a.heap.size a w' :=
  h.grown hg h.size (fun j hj => Nat.le_trans hN (own.lt j hj).1)
theorem own_open {w : World} {N k n : Nat} {T : TypeId} {v : Value} {xs : List Value} (h : w.ownsRow N T k v n xs) (hn : 0 < n) :
    ∃ g cap, v = .slice (some ⟨g, 0, none⟩) n cap ∧ N ≤ g ∧ g < w.heap.size ∧ (∀ o, w.frozen? ⟨g, o, none⟩ = false) ∧ (∀ j u, xs[j]? = some u → w.cell? ⟨g, j, none⟩ = some u) := by
  obtain ⟨h1, h2⟩ := h
  rcases h2 with ⟨rfl, rfl⟩ | ⟨g, cap, cur, rfl, hg, hh, hnc, hm, hs, ht⟩
  · omega
  · have hB : Blk w g cur T := hh
    refine ⟨g, cap, rfl, hg, hB.lt, hB.free, fun j u hj => ?_⟩
    rw [← ht, List.getElem?_take] at hj
    have hj' : cur.toList[j]? = some u := by split at hj <;> simp_all
    exact hB.cell j (by simpa using hj')
theorem own_write {w : World} {N k n g cap : Nat} {T : TypeId} {xs : List Value} (h : w.ownsRow N T k (.slice (some ⟨g, 0, none⟩) n cap) n xs) (j : Nat) (u : Value) : (w.setCell ⟨g, j, none⟩ u).ownsRow N T k (.slice (some ⟨g, 0, none⟩) n cap) n (xs.set j u) := by
  obtain ⟨h1, h2⟩ := h
  rcases h2 with ⟨h, _⟩ | ⟨g', cap', cur, hv, hg, hh, hnc, hm, hs, ht⟩
  · cases h
  · simp only [Value.slice.injEq, Option.some.injEq, Addr.mk.injEq, and_true, true_and] at hv
    obtain ⟨rfl, rfl⟩ := hv
    have hB : Blk w g cur T := hh
    refine ⟨by simpa using h1, .inr ⟨g, cap, cur.setIfInBounds j u, rfl, hg, hB.set j u, hnc, hm, by simpa using hs, ?_⟩⟩
    rw [Array.toList_setIfInBounds, ← ht, List.take_set]
end Go.Proofs.Ythciikogogkfcaa
