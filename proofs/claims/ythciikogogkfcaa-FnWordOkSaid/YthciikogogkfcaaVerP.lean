/- Versions and lists of them as plain data: what is valid, and how they lie in memory. No program in sight. -/
import Derived.Test.YthciikogogkfcaaDepsP
namespace Go.Proofs.Ythciikogogkfcaa
open Go.RowKit

/-- A version. -/
structure Vp where
  key : Int
  time : Int
  site : Int
  val : Int
  client : Int
  call : Int
  deps : List Dp
/-- A version as it lies in memory: with the place of its dependencies. -/
structure Mv where
  v : Vp
  a : Option Addr
  c : Nat
def zeroV : Vp := ⟨0, 0, 0, 0, 0, 0, []⟩
def mvC (m : Mv) : List Value := [.int .i64 m.v.key, .int .i64 m.v.time, .int .i64 m.v.site, .int .i64 m.v.val, .int .i64 m.v.client, .int .i64 m.v.call, .slice m.a m.v.deps.length m.c]
def mvsC (l : List Mv) : List Value := l.flatMap mvC
def vs (l : List Mv) : List Vp := l.map Mv.v
theorem vs_len (l : List Mv) : (vs l).length = l.length := by simp [vs]
theorem vs_get (l : List Mv) (k : Nat) (h : k < l.length) : (vs l)[k]'(by rw [vs_len]; exact h) = l[k].v := by simp [vs]
theorem vs_snoc (l : List Mv) (m : Mv) : vs (l ++ [m]) = vs l ++ [m.v] := by simp [vs]
theorem vs_take (l : List Mv) (k : Nat) : vs (l.take k) = (vs l).take k := by simp [vs, List.map_take]
theorem mvsC_len (l : List Mv) : (mvsC l).length = l.length * 7 := by
  induction l with
  | nil => rfl
  | cons p l ih => simp [mvsC, mvC] at ih ⊢; omega
theorem mvsC_get (l : List Mv) (i : Nat) (h : i < l.length) : (mvsC l)[i * 7]? = some (.int .i64 l[i].v.key) ∧ (mvsC l)[i * 7 + 1]? = some (.int .i64 l[i].v.time) ∧ (mvsC l)[i * 7 + 2]? = some (.int .i64 l[i].v.site) ∧ (mvsC l)[i * 7 + 3]? = some (.int .i64 l[i].v.val) ∧
    (mvsC l)[i * 7 + 4]? = some (.int .i64 l[i].v.client) ∧ (mvsC l)[i * 7 + 5]? = some (.int .i64 l[i].v.call) ∧ (mvsC l)[i * 7 + 6]? = some (.slice l[i].a l[i].v.deps.length l[i].c) := by
  induction l generalizing i with
  | nil => simp at h
  | cons p l ih =>
    cases i with
    | zero => simp [mvsC, mvC]
    | succ i =>
      have := ih i (by simpa using h)
      have e1 : (i + 1) * 7 = (i * 7) + 1 + 1 + 1 + 1 + 1 + 1 + 1 := by omega
      simp only [mvsC, List.flatMap_cons, mvC, List.cons_append, List.nil_append, e1, List.getElem?_cons_succ, List.getElem_cons_succ] at this ⊢
      exact this
theorem mvsC_ne {l : List Mv} (h : 0 < l.length) : mvsC l ≠ [] := by
  intro e; have := mvsC_len l; rw [e] at this; simp at this; omega
theorem mvsC_snoc (l : List Mv) (m : Mv) : mvsC (l ++ [m]) = mvsC l ++ mvC m := by simp [mvsC]
theorem mvC_one (m : Mv) : ∀ u ∈ mvC m, u.oneCell' = true := by
  intro u hu
  simp only [mvC, List.mem_cons, List.not_mem_nil, or_false] at hu
  rcases hu with rfl | rfl | rfl | rfl | rfl | rfl | rfl <;> rfl
theorem mvsC_one (l : List Mv) : ∀ u ∈ mvsC l, u.oneCell' = true := by
  intro u hu
  obtain ⟨m, _, h⟩ := List.mem_flatMap.1 hu
  exact mvC_one m u h
/-- The dependencies of each can be read. -/
def DepsIn (w : World) (l : List Mv) : Prop := ∀ m ∈ l, Reads w m.a m.v.deps.length m.c (dpsC m.v.deps)
theorem DepsIn.below {w w' : World} {l : List Mv} (h : DepsIn w l) (hb : Below w.heap.size w w') : DepsIn w' l := fun m hm => (h m hm).below hb
theorem DepsIn.get {w : World} {l : List Mv} (h : DepsIn w l) (k : Nat) (hk : k < l.length) : Reads w l[k].a l[k].v.deps.length l[k].c (dpsC l[k].v.deps) := h _ (List.getElem_mem hk)
/-- A list of versions that can be read whole. -/
structure Vers (w : World) (a : Option Addr) (c : Nat) (l : List Mv) : Prop where
  rd : Reads w a l.length c (mvsC l)
  dp : DepsIn w l
theorem Vers.below {w w' : World} {a : Option Addr} {c : Nat} {l : List Mv} (h : Vers w a c l) (hb : Below w.heap.size w w') : Vers w' a c l := ⟨h.rd.below hb, h.dp.below hb⟩
theorem Vers.alloc {w : World} {a : Option Addr} {c : Nat} {l : List Mv} (h : Vers w a c l) (o : Obj) : Vers (w.alloc o) a c l := h.below (below_box w o)
/-- What the walk asks of element k. -/
theorem Vers.at_ {w : World} {a : Option Addr} {c : Nat} {l : List Mv} (h : Vers w a c l) (k : Nat) (hk : k < l.length) : ∃ b off, a = some ⟨b, off, none⟩ ∧ b < w.heap.size ∧
    w.cell? ⟨b, off + k * 7, none⟩ = some (.int .i64 l[k].v.key) ∧ w.cell? ⟨b, off + k * 7 + 1, none⟩ = some (.int .i64 l[k].v.time) ∧ w.cell? ⟨b, off + k * 7 + 2, none⟩ = some (.int .i64 l[k].v.site) ∧
    w.cell? ⟨b, off + k * 7 + 3, none⟩ = some (.int .i64 l[k].v.val) ∧ w.cell? ⟨b, off + k * 7 + 4, none⟩ = some (.int .i64 l[k].v.client) ∧ w.cell? ⟨b, off + k * 7 + 5, none⟩ = some (.int .i64 l[k].v.call) ∧
    w.cell? ⟨b, off + k * 7 + 6, none⟩ = some (.slice l[k].a l[k].v.deps.length l[k].c) := by
  obtain ⟨_, _, h3⟩ := h.rd
  obtain ⟨b, off, rfl, hbl, hcell⟩ := h3 (mvsC_ne (by omega))
  obtain ⟨g0, g1, g2, g3, g4, g5, g6⟩ := mvsC_get l k hk
  refine ⟨b, off, rfl, hbl, hcell _ _ g0, ?_, ?_, ?_, ?_, ?_, ?_⟩
  · rw [Nat.add_assoc]; exact hcell _ _ g1
  · rw [Nat.add_assoc]; exact hcell _ _ g2
  · rw [Nat.add_assoc]; exact hcell _ _ g3
  · rw [Nat.add_assoc]; exact hcell _ _ g4
  · rw [Nat.add_assoc]; exact hcell _ _ g5
  · rw [Nat.add_assoc]; exact hcell _ _ g6
theorem Vers.get {w : World} {a : Option Addr} {c : Nat} {l : List Mv} (h : Vers w a c l) (k : Nat) (hk : k < l.length) : Reads w l[k].a l[k].v.deps.length l[k].c (dpsC l[k].v.deps) := h.dp.get k hk
theorem Vers.len {w : World} {a : Option Addr} {c : Nat} {l : List Mv} (h : Vers w a c l) : l.length ≤ 9223372036854775807 := h.rd.len
theorem Vers.nil (w : World) : Vers w none 0 [] := ⟨⟨Nat.le_refl _, by simp, fun h => absurd rfl h⟩, fun _ h => by simp at h⟩

theorem Blk.seven {w : World} {b : Nat} {x0 x1 x2 x3 x4 x5 x6 : Value} {T : TypeId} (h : Blk w b #[x0, x1, x2, x3, x4, x5, x6] T) : w.cell? ⟨b, 0, none⟩ = some x0 ∧ w.cell? ⟨b, 1, none⟩ = some x1 ∧ w.cell? ⟨b, 2, none⟩ = some x2 ∧
    w.cell? ⟨b, 3, none⟩ = some x3 ∧ w.cell? ⟨b, 4, none⟩ = some x4 ∧ w.cell? ⟨b, 5, none⟩ = some x5 ∧ w.cell? ⟨b, 6, none⟩ = some x6 ∧ (∀ o, w.frozen? ⟨b, o, none⟩ = false) ∧ b < w.heap.size :=
  ⟨h.cell 0 rfl, h.cell 1 rfl, h.cell 2 rfl, h.cell 3 rfl, h.cell 4 rfl, h.cell 5 rfl, h.cell 6 rfl, h.free, h.lt⟩

theorem Blk.put0 {w : World} {b : Nat} {x0 x1 x2 x3 x4 x5 x6 : Value} {T : TypeId} (h : Blk w b #[x0, x1, x2, x3, x4, x5, x6] T) (y : Value) : Blk (w.setCell ⟨b, 0, none⟩ y) b #[y, x1, x2, x3, x4, x5, x6] T := h.set 0 y
theorem Blk.put1 {w : World} {b : Nat} {x0 x1 x2 x3 x4 x5 x6 : Value} {T : TypeId} (h : Blk w b #[x0, x1, x2, x3, x4, x5, x6] T) (y : Value) : Blk (w.setCell ⟨b, 1, none⟩ y) b #[x0, y, x2, x3, x4, x5, x6] T := h.set 1 y
theorem Blk.put2 {w : World} {b : Nat} {x0 x1 x2 x3 x4 x5 x6 : Value} {T : TypeId} (h : Blk w b #[x0, x1, x2, x3, x4, x5, x6] T) (y : Value) : Blk (w.setCell ⟨b, 2, none⟩ y) b #[x0, x1, y, x3, x4, x5, x6] T := h.set 2 y
theorem Blk.put3 {w : World} {b : Nat} {x0 x1 x2 x3 x4 x5 x6 : Value} {T : TypeId} (h : Blk w b #[x0, x1, x2, x3, x4, x5, x6] T) (y : Value) : Blk (w.setCell ⟨b, 3, none⟩ y) b #[x0, x1, x2, y, x4, x5, x6] T := h.set 3 y
theorem Blk.put4 {w : World} {b : Nat} {x0 x1 x2 x3 x4 x5 x6 : Value} {T : TypeId} (h : Blk w b #[x0, x1, x2, x3, x4, x5, x6] T) (y : Value) : Blk (w.setCell ⟨b, 4, none⟩ y) b #[x0, x1, x2, x3, y, x5, x6] T := h.set 4 y
theorem Blk.put5 {w : World} {b : Nat} {x0 x1 x2 x3 x4 x5 x6 : Value} {T : TypeId} (h : Blk w b #[x0, x1, x2, x3, x4, x5, x6] T) (y : Value) : Blk (w.setCell ⟨b, 5, none⟩ y) b #[x0, x1, x2, x3, x4, y, x6] T := h.set 5 y
theorem Blk.put6 {w : World} {b : Nat} {x0 x1 x2 x3 x4 x5 x6 : Value} {T : TypeId} (h : Blk w b #[x0, x1, x2, x3, x4, x5, x6] T) (y : Value) : Blk (w.setCell ⟨b, 6, none⟩ y) b #[x0, x1, x2, x3, x4, x5, y] T := h.set 6 y

/-! What is valid. -/
def olderB (t : Int) (l : List Dp) : Bool := l.all fun d => decide (d.2.1 < t)
theorem olderB_take (t : Int) (l : List Dp) (k : Nat) (h : k < l.length) : olderB t (l.take (k + 1)) = (olderB t (l.take k) && decide (l[k].2.1 < t)) := by
  unfold olderB; rw [List.take_succ_eq_append_getElem h, List.all_append]; simp
theorem olderB_bad {t : Int} {l : List Dp} (k : Nat) (h : k < l.length) (hb : t ≤ l[k].2.1) : olderB t l = false := by
  unfold olderB
  rw [List.all_eq_false]
  exact ⟨l[k], List.getElem_mem h, by simp; omega⟩
def headOkB (v : Vp) : Bool := inB v.key 0 5 && (stampOkB v.time v.site && (inB v.val 0 9999 && (inB v.client 0 1 && inB v.call 1 99)))
def verOkB (v : Vp) : Bool := headOkB v && (depsOkB v.deps && olderB v.time v.deps)
def vLess (a b : Vp) : Bool := decide (a.key < b.key) || (decide (a.key = b.key) && stampLessB a.time a.site b.time b.site)
/-- Valid and in order, behind one. -/
def chFrom : Option Vp → List Vp → Bool
  | _, [] => true
  | p, v :: l => (verOkB v && (match p with | none => true | some u => vLess u v)) && chFrom (some v) l
def chB (l : List Vp) : Bool := chFrom none l
def chainOkB (l : List Vp) : Bool := chB l && decide (l.length ≤ 80)
def lastO (p : Option Vp) (l : List Vp) : Option Vp := l.foldl (fun _ v => some v) p
theorem chFrom_snoc (p : Option Vp) (l : List Vp) (v : Vp) : chFrom p (l ++ [v]) = (chFrom p l && (verOkB v && (match lastO p l with | none => true | some u => vLess u v))) := by
  induction l generalizing p with
  | nil => simp [chFrom, lastO]
  | cons x l ih => simp only [List.cons_append, chFrom, ih, Bool.and_assoc]; rfl
theorem lastO_snoc (p : Option Vp) (l : List Vp) (v : Vp) : lastO p (l ++ [v]) = some v := by simp [lastO]
theorem chB_first (l : List Vp) (h : 0 < l.length) : chB (l.take 1) = verOkB l[0] := by
  cases l with
  | nil => simp at h
  | cons v l => simp [chB, chFrom]
theorem chB_take (l : List Vp) (k : Nat) (h : k < l.length) : chB (l.take (k + 1)) = (chB (l.take k) && (verOkB l[k] && (decide (k = 0) || vLess (l[k - 1]'(by omega)) l[k]))) := by
  unfold chB
  rw [List.take_succ_eq_append_getElem h, chFrom_snoc]
  congr 2
  cases k with
  | zero => simp [lastO]
  | succ j => rw [List.take_succ_eq_append_getElem (by omega), lastO_snoc]; simp
theorem chFrom_app (p : Option Vp) (l m : List Vp) (h : chFrom p (l ++ m) = true) : chFrom p l = true := by
  induction l generalizing p with
  | nil => rfl
  | cons e l ih =>
    simp only [List.cons_append, chFrom, Bool.and_eq_true] at h ⊢
    exact ⟨h.1, ih _ h.2⟩
theorem chB_bad (l : List Vp) (k : Nat) (h : chB (l.take k) = false) : chB l = false := by
  rcases hb : chB l with _ | _
  · rfl
  · rw [← List.take_append_drop k l] at hb
    have := chFrom_app _ _ _ hb
    rw [show chFrom none (l.take k) = chB (l.take k) from rfl, h] at this
    cases this
theorem chainOk_no {l : List Vp} (h : chB l = false) : chainOkB l = false := by rw [chainOkB, h]; rfl
theorem chainOk_long {l : List Vp} (h : 80 < l.length) : chainOkB l = false := by rw [chainOkB, decide_eq_false (by omega), Bool.and_false]
theorem chainOk_yes {l : List Vp} (h : chB l = true) (hl : l.length ≤ 80) : chainOkB l = true := by rw [chainOkB, h, decide_eq_true hl]; rfl
end Go.Proofs.Ythciikogogkfcaa
