/- A row into which an element is set: as a list of cells; and the copy of elements of more than one cell. No program in sight. -/
import Derived.Test.YtdheoaefmacamaaTwo
import Derived.Laws.CopyRow
import Derived.Lib.AppendZerosOnto
import Derived.Lib.Overlaps
import Derived.Laws.Externs
namespace Go.Proofs.Ytdheoaefmacamaa
open Go.RowKit Go.Deep
set_option linter.unusedVariables false

theorem shift_row (cur xs ys : List Value) (a s N : Nat) (hx : cur.take N = xs) (ha : a ≤ N) (hy : ys.length = s) (hl : N + s ≤ cur.length) (r1 r2 : List Value)
    (h1 : r1 = cur.take (a + s) ++ xs.drop a ++ cur.drop (a + s + (xs.drop a).length)) (h2 : r2 = r1.take a ++ ys ++ r1.drop (a + s)) :
    r2.take (N + s) = xs.take a ++ ys ++ xs.drop a ∧ r2.length = cur.length ∧ r1.length = cur.length := by
  have hxl : xs.length = N := by rw [← hx, List.length_take]; omega
  have hdl : (xs.drop a).length = N - a := by rw [List.length_drop, hxl]
  have hr1 : r1.length = cur.length := by rw [h1]; simp [hdl]; omega
  have e1 : r1.take a = xs.take a := by
    rw [h1, List.append_assoc, List.take_append_of_le_length (by rw [List.length_take]; omega), List.take_take, ← hx, List.take_take]
    congr 1; omega
  have e2 : r1.drop (a + s) = xs.drop a ++ cur.drop (a + s + (xs.drop a).length) := by
    rw [h1, List.append_assoc, List.drop_left' (by rw [List.length_take]; omega)]
  have e3 : r2 = (xs.take a ++ ys ++ xs.drop a) ++ cur.drop (a + s + (xs.drop a).length) := by
    rw [h2, e1, e2]; simp [List.append_assoc]
  refine ⟨?_, ?_, hr1⟩
  · rw [e3, List.take_left' (by simp [hdl, hxl, hy]; omega)]
  · rw [e3]; simp [hdl, hxl, hy]; omega
theorem new_row (row xs ys : List Value) (a s N : Nat) (hx : row.take a = xs.take a) (hxl : xs.length = N) (ha : a ≤ N) (hy : ys.length = s) (hl : N + s ≤ row.length) (r1 r2 : List Value)
    (h1 : r1 = row.take a ++ ys ++ row.drop (a + ys.length)) (h2 : r2 = r1.take (a + s) ++ xs.drop a ++ r1.drop (a + s + (xs.drop a).length)) :
    r2.take (N + s) = xs.take a ++ ys ++ xs.drop a ∧ r2.length = row.length ∧ r1.length = row.length := by
  have hdl : (xs.drop a).length = N - a := by rw [List.length_drop, hxl]
  have hr1 : r1.length = row.length := by rw [h1]; simp; omega
  have e1 : r1.take (a + s) = xs.take a ++ ys := by
    rw [h1, List.take_left' (by simp [hy]; omega), hx]
  have e3 : r2 = (xs.take a ++ ys ++ xs.drop a) ++ r1.drop (a + s + (xs.drop a).length) := by rw [h2, e1]
  refine ⟨?_, ?_, hr1⟩
  · rw [e3, List.take_left' (by simp [hdl, hxl, hy]; omega)]
  · rw [e3]; simp [hdl, hxl, hy, hr1]; omega
/-- A copy of elements of k cells each. -/
theorem run_copy_rowN {P : Program} (w : World) (dT sT ty elem : TypeId) (g o dLen dCap : Nat) (a : Addr) (sLen sCap k : Nat) (cur : Array Value) (t : TypeId) (cs : List Value)
    (hu : P.underlying dT = some (.slice elem)) (hs : (P.info? elem).map (·.size) = some k)
    (hg : w.heap[g]? = some (.cells cur t (0, 0))) (hn : cs.length = Nat.min sLen dLen * k)
    (hsrc : ∀ j v, cs[j]? = some v → w.cell? (a.add j) = some v) (hfit : o + cs.length ≤ cur.size) (h1 : ∀ v ∈ cs, v.oneCell' = true) :
    (Builtin.copy_ #[dT, sT] ty #[.slice (some ⟨g, o, none⟩) dLen dCap, .slice (some a) sLen sCap]).run P w =
      .ok (goInt (Nat.min sLen dLen)) (w.setRow g (cur.toList.take o ++ cs ++ cur.toList.drop (o + cs.length)).toArray) := by
  have hl := run_loadCells_list (P := P) w a cs hsrc
  have hst := run_storeCells_at P g o t cs 0 cur w hg (by simpa using hfit) h1
  cases hq : P.info? elem with
  | none => simp [hq] at hs
  | some i =>
    have hi : i.size = k := by simpa [hq] using hs
    simp [Builtin.copy_, run_underlying hu, Builtin.lenOf, Builtin.firstCells, sizeOf, typeInfo, hq, hi, ← hn, hl, hst]
theorem wp_copy_runI {P : Program} (w : World) {o : Oper} {a : Act} {K : Act → World → Prop} {Q : Exit → Act → World → Prop} (d s : Operand) (t t' : TypeId)
    (ho : o.op = .call { callee := .builtin .copy, args := #[d, s], argTypes := #[t, t'] }) (v u : Value) (hd : a.eval d = v) (hs : a.eval s = u) {v' : Value} {w' : World}
    (hr : (Builtin.copy_ #[t, t'] o.type #[v, u]).run P w = .ok v' w') (h : K (a.put o.dst v') w') : o.wp P a w K Q := by
  unfold Oper.wp execOp
  simp only [ho, resolve, invoke, builtin, Sem.run_bind, Sem.run_pure, Result.andThen_ok, List.map_toArray, List.map_cons, List.map_nil, hd, hs, hr]
  exact h
theorem wpList_copy_runI {P : Program} (w : World) {ops : Array Oper} {rest : List Oper} {o : Oper} {a : Act} {Q : Exit → Act → World → Prop} (hgd : o.guard = none) (d s : Operand) (t t' : TypeId)
    (ho : o.op = .call { callee := .builtin .copy, args := #[d, s], argTypes := #[t, t'] }) (v u : Value) (hd : a.eval d = v) (hs : a.eval s = u) {v' : Value} {w' : World}
    (hr : (Builtin.copy_ #[t, t'] o.type #[v, u]).run P w = .ok v' w') (h : wpList P ops Q rest (a.put o.dst v') w') : wpList P ops Q (o :: rest) a w :=
  wpList_plain hgd fun _ hK => wp_copy_runI w d s t t' ho v u hd hs hr (hK _ _ h)
theorem step_copy_runI {P : Program} {ops : Array Oper} {o : Oper} {a : Act} {w : World} {K : Act → World → Prop} {Q : Exit → Act → World → Prop} {E : Prop}
    (hg : o.guard = none) (d x : Operand) (dT sT : TypeId) (hop : o.op = Op.call { callee := Callee.builtin Builtin.copy, args := #[d, x], argTypes := #[dT, sT] })
    (v u : Value) (hd : a.eval d = v) (hx : a.eval x = u) {v' : Value} {w' : World} (hr : (Builtin.copy_ #[dT, sT] o.type #[v, u]).run P w = .ok v' w') (hK : K (a.put o.dst v') w') :
    if Region.wanted o (yielded ops a.tmps) = true then Oper.wp P o a w K Q else E := by
  have hw : Region.wanted o (yielded ops a.tmps) = true := by simp [Region.wanted, hg]
  rw [if_pos hw]
  unfold Oper.wp
  simp [execOp, hop, resolve, invoke, builtin, hd, hx, hr, Result.andThen]
  exact hK
/-- What an insertion leaves: the row of one's own, one element longer. -/
theorem grown_setRow (w : World) (g : Nat) (cs : Array Value) : w.grownBy (w.setRow g cs) (some g) := ⟨rfl, rfl, rfl, by simp, fun k _ hk => setRow_other w g k cs (fun e => hk (by rw [e]))⟩
theorem own_row {w : World} {N g n c k : Nat} {T : TypeId} {cur : Array Value} {xs : List Value} (hh : w.heap[g]? = some (.cells cur T (0, 0))) (hN : N ≤ g) (hn : n ≤ c) (hc : c ≤ maxLen) (hs : cur.size = c * k) (ht : cur.toList.take (n * k) = xs) :
    w.ownsRow N T k (.slice (some ⟨g, 0, none⟩) n c) n xs := by
  refine ⟨?_, .inr ⟨g, c, cur, rfl, hN, hh, hn, hc, hs, ht⟩⟩
  rw [← ht, List.length_take, Array.length_toList, hs]
  exact Nat.min_eq_left (Nat.mul_le_mul_right k hn)
end Go.Proofs.Ytdheoaefmacamaa
