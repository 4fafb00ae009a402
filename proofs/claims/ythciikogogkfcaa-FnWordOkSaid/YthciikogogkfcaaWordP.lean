/- Words as plain data: what is valid, and how they lie in memory. No program in sight. -/
import Derived.Test.YthciikogogkfcaaChainP
namespace Go.Proofs.Ythciikogogkfcaa
open Go.RowKit
set_option linter.unusedVariables false

def addrB (n : Int) : Bool := inB n 0 3 || inB n 10 11
theorem addr_wrap {n : Int} (h : -9223372036854775808 ≤ n ∧ n ≤ 9223372036854775807) (h0 : inB n 0 3 = false) : inB (IntKind.i64.wrap (n - 10)) 0 1 = inB n 10 11 := by
  rw [IntKind.wrap_i64]
  obtain ⟨h1, h2⟩ := h
  rcases hb : inB n 10 11 with _ | _
  · rw [inB_not] at hb h0 ⊢; omega
  · rw [inB_iff] at hb ⊢; omega
def fitsB (t s : Int) : Bool := (decide (t = 0) && decide (s = 0)) || stampOkB t s
/-- Debts: valid and in order, behind one. -/
def dbFrom : Option Dp → List Dp → Bool
  | _, [] => true
  | p, d :: l => (inB d.1 0 5 && (stampOkB d.2.1 d.2.2 && (match p with | none => true | some u => depLessB u.1 u.2.1 u.2.2 d.1 d.2.1 d.2.2))) && dbFrom (some d) l
def dbB (l : List Dp) : Bool := dbFrom none l
def debtsB (l : List Dp) : Bool := dbB l && decide (l.length ≤ 80)
def lastD (p : Option Dp) (l : List Dp) : Option Dp := l.foldl (fun _ v => some v) p
theorem dbFrom_snoc (p : Option Dp) (l : List Dp) (v : Dp) : dbFrom p (l ++ [v]) = (dbFrom p l && (inB v.1 0 5 && (stampOkB v.2.1 v.2.2 && (match lastD p l with | none => true | some u => depLessB u.1 u.2.1 u.2.2 v.1 v.2.1 v.2.2)))) := by
  induction l generalizing p with
  | nil => simp [dbFrom, lastD]
  | cons x l ih => simp only [List.cons_append, dbFrom, ih, Bool.and_assoc]; rfl
theorem lastD_snoc (p : Option Dp) (l : List Dp) (v : Dp) : lastD p (l ++ [v]) = some v := by simp [lastD]
theorem dbB_take (l : List Dp) (k : Nat) (h : k < l.length) : dbB (l.take (k + 1)) = (dbB (l.take k) && (inB l[k].1 0 5 && (stampOkB l[k].2.1 l[k].2.2 && (decide (k = 0) || depLessB (l[k - 1]'(by omega)).1 (l[k - 1]'(by omega)).2.1 (l[k - 1]'(by omega)).2.2 l[k].1 l[k].2.1 l[k].2.2)))) := by
  unfold dbB
  rw [List.take_succ_eq_append_getElem h, dbFrom_snoc]
  congr 3
  cases k with
  | zero => simp [lastD]
  | succ j => rw [List.take_succ_eq_append_getElem (by omega), lastD_snoc]; simp
theorem dbFrom_app (p : Option Dp) (l m : List Dp) (h : dbFrom p (l ++ m) = true) : dbFrom p l = true := by
  induction l generalizing p with
  | nil => rfl
  | cons e l ih =>
    simp only [List.cons_append, dbFrom, Bool.and_eq_true] at h ⊢
    exact ⟨h.1, ih _ h.2⟩
theorem dbB_bad (l : List Dp) (k : Nat) (h : dbB (l.take k) = false) : dbB l = false := by
  rcases hb : dbB l with _ | _
  · rfl
  · rw [← List.take_append_drop k l] at hb
    have := dbFrom_app _ _ _ hb
    rw [show dbFrom none (l.take k) = dbB (l.take k) from rfl, h] at this
    cases this
theorem debts_no {l : List Dp} (h : dbB l = false) : debtsB l = false := by rw [debtsB, h]; rfl
theorem debts_long {l : List Dp} (h : 80 < l.length) : debtsB l = false := by rw [debtsB, decide_eq_false (by omega), Bool.and_false]
theorem debts_yes {l : List Dp} (h : dbB l = true) (hl : l.length ≤ 80) : debtsB l = true := by rw [debtsB, h, decide_eq_true hl]; rfl
/-- A word, with the places of its lists. -/
structure Mw where
  kind : Int
  frm : Int
  to : Int
  call : Int
  key : Int
  time : Int
  site : Int
  val : Int
  yes : Bool
  deps : List Dp
  slot : Int
  epoch : Int
  vers : List Mv
  waits : List Mv
  owes : List Dp
  da : Option Addr
  dc : Nat
  va : Option Addr
  vc : Nat
  wa : Option Addr
  wc : Nat
  oa : Option Addr
  oc : Nat
def wordOkB (x : Mw) : Bool := inB x.kind 1 10 && (addrB x.frm && (addrB x.to && (inB x.call 0 99 && (inB x.key 0 5 && (fitsB x.time x.site && (inB x.val 0 9999 && (depsOkB x.deps && (inB x.slot 0 2 && (inB x.epoch 0 9999 && (chainOkB (vs x.vers) && (chainOkB (vs x.waits) && debtsB x.owes)))))))))))
/-- What a word's lists must be so that they can be read. -/
structure WordIn (w : World) (x : Mw) : Prop where
  dp : Reads w x.da x.deps.length x.dc (dpsC x.deps)
  vr : Vers w x.va x.vc x.vers
  wt : Vers w x.wa x.wc x.waits
  ow : Reads w x.oa x.owes.length x.oc (dpsC x.owes)
theorem WordIn.below {w w' : World} {x : Mw} (h : WordIn w x) (hb : Below w.heap.size w w') : WordIn w' x := ⟨h.dp.below hb, h.vr.below hb, h.wt.below hb, h.ow.below hb⟩
/-- No list of it is greater than can be counted. -/
structure FewW (x : Mw) : Prop where
  dp : x.deps.length ≤ 1048577
  vr : x.vers.length ≤ 1048577 ∧ ∀ m ∈ x.vers, m.v.deps.length ≤ 1048577
  wt : x.waits.length ≤ 1048577 ∧ ∀ m ∈ x.waits, m.v.deps.length ≤ 1048577
  ow : x.owes.length ≤ 1048577
theorem Blk.word {w : World} {b : Nat} {x0 x1 x2 x3 x4 x5 x6 x7 x8 x9 x10 x11 x12 x13 x14 : Value} {T : TypeId} (h : Blk w b #[x0, x1, x2, x3, x4, x5, x6, x7, x8, x9, x10, x11, x12, x13, x14] T) :
    w.cell? ⟨b, 0, none⟩ = some x0 ∧ w.cell? ⟨b, 1, none⟩ = some x1 ∧ w.cell? ⟨b, 2, none⟩ = some x2 ∧ w.cell? ⟨b, 3, none⟩ = some x3 ∧ w.cell? ⟨b, 4, none⟩ = some x4 ∧ w.cell? ⟨b, 5, none⟩ = some x5 ∧ w.cell? ⟨b, 6, none⟩ = some x6 ∧ w.cell? ⟨b, 7, none⟩ = some x7 ∧
    w.cell? ⟨b, 8, none⟩ = some x8 ∧ w.cell? ⟨b, 9, none⟩ = some x9 ∧ w.cell? ⟨b, 10, none⟩ = some x10 ∧ w.cell? ⟨b, 11, none⟩ = some x11 ∧ w.cell? ⟨b, 12, none⟩ = some x12 ∧ w.cell? ⟨b, 13, none⟩ = some x13 ∧ w.cell? ⟨b, 14, none⟩ = some x14 ∧ (∀ o, w.frozen? ⟨b, o, none⟩ = false) ∧ b < w.heap.size :=
  ⟨h.cell 0 rfl, h.cell 1 rfl, h.cell 2 rfl, h.cell 3 rfl, h.cell 4 rfl, h.cell 5 rfl, h.cell 6 rfl, h.cell 7 rfl, h.cell 8 rfl, h.cell 9 rfl, h.cell 10 rfl, h.cell 11 rfl, h.cell 12 rfl, h.cell 13 rfl, h.cell 14 rfl, h.free, h.lt⟩
end Go.Proofs.Ythciikogogkfcaa
