/- Lists of versions in memory of one's own: the list, and the dependencies of each, no two in one block. -/
import Derived.Test.YthciikogogkfcaaVerP
namespace Go.Proofs.Ythciikogogkfcaa
open Go.RowKit Go.Deep
set_option linter.unusedVariables false

def blkOf (m : Mv) : Option Nat := (Value.slice m.a m.v.deps.length m.c).ownBlock
def Apart (x y : Mv) : Prop := blkOf x = none ∨ blkOf x ≠ blkOf y
structure OwnIn (N : Nat) (w : World) (l : List Mv) : Prop where
  row : ∀ m ∈ l, w.ownsRow N 32 3 (.slice m.a m.v.deps.length m.c) m.v.deps.length (dpsC m.v.deps)
  apart : l.Pairwise Apart
theorem OwnIn.nil (N : Nat) (w : World) : OwnIn N w [] := ⟨fun _ h => by simp at h, List.Pairwise.nil⟩
theorem OwnIn.below {N : Nat} {w w' : World} {l : List Mv} (h : OwnIn N w l) (hb : Below w.heap.size w w') : OwnIn N w' l := ⟨fun m hm => own_below (h.row m hm) hb, h.apart⟩
theorem OwnIn.alloc {N : Nat} {w : World} {l : List Mv} (h : OwnIn N w l) (o : Obj) : OwnIn N (w.alloc o) l := h.below (below_box w o)
theorem OwnIn.set {N b o : Nat} {w : World} {l : List Mv} (h : OwnIn N w l) (hb : b < N) (u : Value) : OwnIn N (w.setCell ⟨b, o, none⟩ u) l := ⟨fun m hm => own_set (h.row m hm) (own_ne' (h.row m hm) hb) u, h.apart⟩
theorem OwnIn.base {N M : Nat} {w : World} {l : List Mv} (h : OwnIn N w l) (hM : M ≤ N) : OwnIn M w l := ⟨fun m hm => own_base (h.row m hm) hM, h.apart⟩
theorem OwnIn.lt {N : Nat} {w : World} {l : List Mv} (h : OwnIn N w l) : ∀ m ∈ l, ∀ b, blkOf m = some b → N ≤ b ∧ b < w.heap.size := fun m hm b hb => (h.row m hm).lt b hb
theorem OwnIn.reads {N : Nat} {w : World} {l : List Mv} (h : OwnIn N w l) : DepsIn w l := fun m hm => Reads.own (h.row m hm)
theorem OwnIn.snoc {N M : Nat} {w : World} {l : List Mv} {m : Mv} (h : OwnIn N w l) (own : w.ownsRow M 32 3 (.slice m.a m.v.deps.length m.c) m.v.deps.length (dpsC m.v.deps)) (hN : N ≤ M)
    (hM : ∀ x ∈ l, ∀ b, blkOf x = some b → b < M) : OwnIn N w (l ++ [m]) := by
  refine ⟨fun x hx => ?_, ?_⟩
  · rcases List.mem_append.1 hx with hx | hx
    · exact h.row x hx
    · simp only [List.mem_singleton] at hx; subst hx; exact own_base own hN
  · rw [List.pairwise_append]
    refine ⟨h.apart, by simp, fun x hx y hy => ?_⟩
    simp only [List.mem_singleton] at hy; subst hy
    cases hb : blkOf x with
    | none => exact .inl hb
    | some b =>
      right
      intro e
      have h1 := hM x hx b hb
      have h2 := (own.lt b (by rw [hb] at e; exact e.symm)).1
      omega
/-- The list itself, and all that hangs on it. -/
structure OwnVers (N : Nat) (w : World) (v : Value) (l : List Mv) : Prop where
  own : w.ownsRow N 27 7 v l.length (mvsC l)
  inn : OwnIn N w l
theorem OwnVers.below {N : Nat} {w w' : World} {v : Value} {l : List Mv} (h : OwnVers N w v l) (hb : Below w.heap.size w w') : OwnVers N w' v l := ⟨own_below h.own hb, h.inn.below hb⟩
theorem OwnVers.base {N M : Nat} {w : World} {v : Value} {l : List Mv} (h : OwnVers N w v l) (hM : M ≤ N) : OwnVers M w v l := ⟨own_base h.own hM, h.inn.base hM⟩
theorem OwnVers.vers {N c : Nat} {w : World} {a : Option Addr} {l : List Mv} (h : OwnVers N w (.slice a l.length c) l) : Vers w a c l := ⟨Reads.own h.own, h.inn.reads⟩
theorem OwnVers.open_ {N : Nat} {w : World} {v : Value} {l : List Mv} (h : OwnVers N w v l) : ∃ a c, v = .slice a l.length c ∧ Vers w a c l := by
  obtain ⟨a, c, rfl, hr⟩ := Reads.of_owns h.own
  exact ⟨a, c, rfl, hr, h.inn.reads⟩
theorem OwnVers.nil (N : Nat) (w : World) : OwnVers N w (.slice none 0 0) [] := ⟨World.ownsRow_nil _ _ _ _, OwnIn.nil _ _⟩

/-! How much there is. -/
def sumD (l : List Mv) : Nat := (l.map fun m => m.v.deps.length).sum
theorem sumD_take (l : List Mv) (k : Nat) (h : k < l.length) : sumD (l.take (k + 1)) = sumD (l.take k) + l[k].v.deps.length := by
  unfold sumD; rw [List.take_succ_eq_append_getElem h, List.map_append, List.sum_append]; rfl
theorem sumD_split (l : List Mv) (k : Nat) : sumD l = sumD (l.take k) + sumD (l.drop k) := by
  unfold sumD; rw [← List.sum_append, ← List.map_append, List.take_append_drop]
theorem sumD_take_le (l : List Mv) (k : Nat) : sumD (l.take k) ≤ sumD l := by rw [sumD_split l k]; omega
theorem sumD_mem (l : List Mv) (m : Mv) (h : m ∈ l) : m.v.deps.length ≤ sumD l := by
  induction l with
  | nil => simp at h
  | cons x l ih =>
    simp only [sumD, List.map_cons, List.sum_cons] at ih ⊢
    rcases List.mem_cons.1 h with rfl | h
    · omega
    · have := ih h; omega
theorem sumD_vs {l l' : List Mv} (h : vs l = vs l') : sumD l = sumD l' := by
  have e : ∀ l : List Mv, sumD l = ((vs l).map fun v => v.deps.length).sum := fun l => by simp [sumD, vs, Function.comp_def]
  rw [e, e, h]
/-- A row, as far as it is filled, with more to come. -/
theorem fill_app {w : World} {b N m : Nat} {T : TypeId} {xs ys : List Value} {z : Array Value} (h : w.rowIs b T N (fillF xs z m)) (hm : xs.length = m) : w.rowIs b T N (fillF (xs ++ ys) z m) :=
  h.congr fun i _ => by
    unfold fillF
    by_cases hi : i < m
    · rw [if_pos hi, if_pos hi, List.getD_eq_getElem?_getD, List.getD_eq_getElem?_getD, List.getElem?_append_left (by omega)]
    · rw [if_neg hi, if_neg hi]
theorem mvs_last (ms : List Mv) (m : Mv) {k : Nat} (hk : ms.length = k) : (mvsC ms ++ mvC m)[k * 7]? = some (.int .i64 m.v.key) ∧ (mvsC ms ++ mvC m)[k * 7 + 1]? = some (.int .i64 m.v.time) ∧ (mvsC ms ++ mvC m)[k * 7 + 2]? = some (.int .i64 m.v.site) ∧ (mvsC ms ++ mvC m)[k * 7 + 3]? = some (.int .i64 m.v.val) ∧
    (mvsC ms ++ mvC m)[k * 7 + 4]? = some (.int .i64 m.v.client) ∧ (mvsC ms ++ mvC m)[k * 7 + 5]? = some (.int .i64 m.v.call) ∧ (mvsC ms ++ mvC m)[k * 7 + 6]? = some (.slice m.a m.v.deps.length m.c) := by
  subst hk
  have h := mvsC_get (ms ++ [m]) ms.length (by simp)
  have e : (ms ++ [m])[ms.length]'(by simp) = m := by simp
  rw [e, mvsC_snoc] at h
  exact h
end Go.Proofs.Ythciikogogkfcaa
