/- Servers as plain data: what is valid, and how they lie in memory. No program in sight. -/
import Derived.Test.YthciikogogkfcaaChainP
import Derived.Test.YthciikogogkfcaaWordP
namespace Go.Proofs.Ythciikogogkfcaa
open Go.RowKit
set_option linter.unusedVariables false

/-- A server, with the places of its lists. -/
structure Ms where
  site : Int
  up : Bool
  slots : List (Int × Int)
  vers : List Mv
  waits : List Mv
  owes : List Dp
  knows : List Dp
  sa : Option Addr
  sc : Nat
  va : Option Addr
  vc : Nat
  wa : Option Addr
  wc : Nat
  oa : Option Addr
  oc : Nat
  ka : Option Addr
  kc : Nat
/-- Where a key's slot stands at a server. -/
def standI (sl : List (Int × Int)) (key : Int) : Int := (sl.getD (verSlotI key).toNat (0, 0)).2
def hereB (sl : List (Int × Int)) (key : Int) : Bool := !decide (standI sl key = 0)
def slotB (p : Int × Int) : Bool := inB p.1 0 9999 && (inB p.2 0 2 && (decide (p.2 = 0) || decide (1 ≤ p.1)))
def slotsB (l : List (Int × Int)) : Bool := l.all slotB
def versHereB (sl : List (Int × Int)) (l : List Vp) : Bool := l.all fun v => hereB sl v.key
/-- What waits: not there yet, and of the other side. -/
def waitB (site : Int) (vers : List Vp) (v : Vp) : Bool := !decide (siteSideI v.site = siteSideI site) && !hasV vers (v.key, v.time, v.site)
def waitsB (site : Int) (vers : List Vp) (l : List Vp) : Bool := l.all (waitB site vers)
def headB (x : Ms) : Bool := inB x.site 0 3 && (decide (x.slots.length = 3) && (chainOkB (vs x.vers) && (chainOkB (vs x.waits) && (debtsB x.owes && (debtsB x.knows && (x.up || decide (x.knows.length = 0)))))))
def serverOkB (x : Ms) : Bool := headB x && (slotsB x.slots && (versHereB x.slots (vs x.vers) && (versHereB x.slots (vs x.waits) && (waitsB x.site (vs x.vers) (vs x.waits) && hasAllB (vs x.vers) x.owes))))
def serverOwnsB (x : Ms) (key : Int) : Bool := serverOkB x && (inB key 0 5 && decide (standI x.slots key = 1))
/-- What a server's lists must be so that they can be read. -/
structure ServIn (w : World) (x : Ms) : Prop where
  sl : Reads w x.sa x.slots.length x.sc (stsC x.slots)
  vr : Vers w x.va x.vc x.vers
  wt : Vers w x.wa x.wc x.waits
  ow : Reads w x.oa x.owes.length x.oc (dpsC x.owes)
  kn : Reads w x.ka x.knows.length x.kc (dpsC x.knows)
theorem ServIn.below {w w' : World} {x : Ms} (h : ServIn w x) (hb : Below w.heap.size w w') : ServIn w' x := ⟨h.sl.below hb, h.vr.below hb, h.wt.below hb, h.ow.below hb, h.kn.below hb⟩
/-- No list of it is greater than can be counted. -/
structure FewS (x : Ms) : Prop where
  sl : x.slots.length ≤ 1048577
  vr : x.vers.length ≤ 1048577 ∧ ∀ m ∈ x.vers, m.v.deps.length ≤ 1048577
  wt : x.waits.length ≤ 1048577 ∧ ∀ m ∈ x.waits, m.v.deps.length ≤ 1048577
  ow : x.owes.length ≤ 1048577
  kn : x.knows.length ≤ 1048577

theorem all_take {α : Type} {p : α → Bool} (l : List α) (k : Nat) (h : k < l.length) : (l.take (k + 1)).all p = ((l.take k).all p && p l[k]) := by
  rw [List.take_succ_eq_append_getElem h, List.all_append]; simp
theorem all_bad {α : Type} {p : α → Bool} {l : List α} (k : Nat) (h : k < l.length) (hb : p l[k] = false) : l.all p = false := by
  rw [List.all_eq_false]
  exact ⟨l[k], List.getElem_mem h, by simp [hb]⟩
theorem all_vs {p : Vp → Bool} (l : List Mv) (k : Nat) (h : k < l.length) : ((vs l).take (k + 1)).all p = (((vs l).take k).all p && p l[k].v) := by
  rw [all_take (vs l) k (by rw [vs_len]; exact h), vs_get l k h]
theorem all_vs_bad {p : Vp → Bool} {l : List Mv} (k : Nat) (h : k < l.length) (hb : p l[k].v = false) : (vs l).all p = false :=
  all_bad k (by rw [vs_len]; exact h) (by rw [vs_get l k h]; exact hb)
theorem all_vs_end {p : Vp → Bool} {l : List Mv} (h : ((vs l).take l.length).all p = true) : (vs l).all p = true := by
  rw [← vs_len l, List.take_length] at h; exact h
theorem all_end {α : Type} {p : α → Bool} {l : List α} (h : (l.take l.length).all p = true) : l.all p = true := by
  rwa [List.take_length] at h
theorem all_and {α : Type} {p q : α → Bool} (l : List α) : (l.all fun v => p v && q v) = (l.all p && l.all q) := by
  induction l with
  | nil => rfl
  | cons v l ih => simp only [List.all_cons, ih]; cases p v <;> cases q v <;> cases l.all p <;> cases l.all q <;> rfl
/-- The keys of a valid list are keys. -/
theorem chFrom_key {p : Option Vp} {l : List Vp} (h : chFrom p l = true) : ∀ v ∈ l, inB v.key 0 5 = true := by
  induction l generalizing p with
  | nil => simp
  | cons u l ih =>
    simp only [chFrom, Bool.and_eq_true] at h
    intro v hv
    rcases List.mem_cons.1 hv with rfl | hv
    · have := h.1.1
      simp only [verOkB, headOkB, Bool.and_eq_true] at this
      exact this.1.1
    · exact ih h.2 v hv
theorem chain_key {l : List Mv} (h : chainOkB (vs l) = true) (k : Nat) (hk : k < l.length) : inB l[k].v.key 0 5 = true := by
  simp only [chainOkB, Bool.and_eq_true] at h
  exact chFrom_key h.1 _ (by rw [← vs_get l k hk]; exact List.getElem_mem _)
theorem slot_range {key : Int} (h : inB key 0 5 = true) : 0 ≤ verSlotI key ∧ verSlotI key < 3 ∧ ((verSlotI key).toNat : Int) = verSlotI key ∧ (verSlotI key).toNat < 3 := by
  have := inB_iff.1 h
  rw [verSlotI, if_pos h]; omega
/-- A version's place is nowhere, or it is there. -/
theorem place_has {l : List Vp} {q : Dp} : decide (0 ≤ placeI l q) = hasV l q := by
  unfold placeI hasV
  by_cases h : posV l q < l.length
  · rw [if_pos h, decide_eq_true h, decide_eq_true (by omega)]
  · rw [if_neg h, decide_eq_false h, decide_eq_false (by omega)]
theorem here_stand {sl : List (Int × Int)} {key : Int} {b : Bool} (h : hereB sl key = b) : (standI sl key == 0) = !b := by
  subst h
  unfold hereB
  by_cases h : standI sl key = 0
  · simp [h]
  · simp [h]
end Go.Proofs.Ythciikogogkfcaa
