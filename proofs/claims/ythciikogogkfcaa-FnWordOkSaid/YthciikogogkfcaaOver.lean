/- Worlds in which nothing that was there has turned: 'w.over x', and a region that draws its order walked once, over that class of worlds. -/
import Derived.WalkKit
import Derived.BigQuiet
namespace Go.Proofs.Ythciikogogkfcaa
open Go.RowKit

open Classical in
/-- 'w' itself, or any world 'x' in which nothing of 'w' has turned. -/
noncomputable def over (w x : World) : World := if Below w.heap.size w x then x else w
theorem over_below (w x : World) : Below w.heap.size w (over w x) := by
  unfold over; split
  · assumption
  · exact Below.refl _ _
theorem over_of {w x : World} (h : Below w.heap.size w x) : x = over w x := by unfold over; rw [if_pos h]
theorem over_self (w : World) : w = over w w := over_of (Below.refl _ _)
theorem over_cell (w x : World) (b o : Nat) (h : b < w.heap.size) : (over w x).cell? ⟨b, o, none⟩ = w.cell? ⟨b, o, none⟩ := (over_below w x).cell (p := ⟨b, o, none⟩) h
theorem over_frozen (w x : World) (b o : Nat) (h : b < w.heap.size) : (over w x).frozen? ⟨b, o, none⟩ = w.frozen? ⟨b, o, none⟩ := (over_below w x).frozen (p := ⟨b, o, none⟩) h
theorem over_os (w x : World) : (over w x).os = w.os := (over_below w x).os
theorem over_tape (w x : World) : (over w x).tape = w.tape := (over_below w x).tape
theorem over_size (w x : World) : w.heap.size ≤ (over w x).heap.size := (over_below w x).size

theorem below_after {w w1 w2 : World} (h : Below w.heap.size w w1) (k : Below w1.heap.size w1 w2) : Below w.heap.size w w2 := h.trans (k.mono h.size)
theorem below_alloc {w w1 : World} (h : Below w.heap.size w w1) (o : Obj) : Below w.heap.size w (w1.alloc o) := h.alloc h.size o
theorem below_drewN {B : Nat} {a w : World} (h : Below B a w) (n : Nat) : Below B a (w.drewN n) := ⟨h.os, h.tape, h.output, h.size, h.block⟩
/-- What is old reads as it did, said as rules for the walk. -/
theorem bcell {W w1 : World} (hb : Below W.heap.size W w1) : (∀ b o, b < W.heap.size → w1.cell? ⟨b, o, none⟩ = W.cell? ⟨b, o, none⟩) ∧ (∀ b o, b < W.heap.size → w1.frozen? ⟨b, o, none⟩ = W.frozen? ⟨b, o, none⟩) ∧
    (∀ b, b < W.heap.size → b < w1.heap.size) ∧ (∀ b, b ≤ W.heap.size → b ≤ w1.heap.size) :=
  ⟨fun b o h => hb.cell (p := ⟨b, o, none⟩) h, fun b o h => hb.frozen (p := ⟨b, o, none⟩) h, fun _ h => Nat.lt_of_lt_of_le h hb.size, fun _ h => Nat.le_trans h hb.size⟩
theorem over_lt (w x : World) (b : Nat) (h : b < w.heap.size) : b < (over w x).heap.size := Nat.lt_of_lt_of_le h (over_size w x)
theorem over_le (w x : World) (b : Nat) (h : b ≤ w.heap.size) : b ≤ (over w x).heap.size := Nat.le_trans h (over_size w x)

/-! Sizes as the walk spells them. -/
theorem lts2 (x : Nat) : x < x + 1 + 1 := by omega
theorem les2 (x : Nat) : x ≤ x + 1 + 1 := by omega
theorem lts3 (x : Nat) : x < x + 1 + 1 + 1 := by omega
theorem les3 (x : Nat) : x ≤ x + 1 + 1 + 1 := by omega
theorem lts4 (x : Nat) : x < x + 1 + 1 + 1 + 1 := by omega
theorem les4 (x : Nat) : x ≤ x + 1 + 1 + 1 + 1 := by omega
theorem lts5 (x : Nat) : x < x + 1 + 1 + 1 + 1 + 1 := by omega
theorem les5 (x : Nat) : x ≤ x + 1 + 1 + 1 + 1 + 1 := by omega
theorem lts6 (x : Nat) : x < x + 1 + 1 + 1 + 1 + 1 + 1 := by omega
theorem les6 (x : Nat) : x ≤ x + 1 + 1 + 1 + 1 + 1 + 1 := by omega
theorem lts7 (x : Nat) : x < x + 1 + 1 + 1 + 1 + 1 + 1 + 1 := by omega
theorem les7 (x : Nat) : x ≤ x + 1 + 1 + 1 + 1 + 1 + 1 + 1 := by omega
theorem lts8 (x : Nat) : x < x + 1 + 1 + 1 + 1 + 1 + 1 + 1 + 1 := by omega
theorem les8 (x : Nat) : x ≤ x + 1 + 1 + 1 + 1 + 1 + 1 + 1 + 1 := by omega
theorem lts9 (x : Nat) : x < x + 1 + 1 + 1 + 1 + 1 + 1 + 1 + 1 + 1 := by omega
theorem les9 (x : Nat) : x ≤ x + 1 + 1 + 1 + 1 + 1 + 1 + 1 + 1 + 1 := by omega
theorem lts10 (x : Nat) : x < x + 1 + 1 + 1 + 1 + 1 + 1 + 1 + 1 + 1 + 1 := by omega
theorem les10 (x : Nat) : x ≤ x + 1 + 1 + 1 + 1 + 1 + 1 + 1 + 1 + 1 + 1 := by omega
theorem lts11 (x : Nat) : x < x + 1 + 1 + 1 + 1 + 1 + 1 + 1 + 1 + 1 + 1 + 1 := by omega
theorem les11 (x : Nat) : x ≤ x + 1 + 1 + 1 + 1 + 1 + 1 + 1 + 1 + 1 + 1 + 1 := by omega
theorem lts12 (x : Nat) : x < x + 1 + 1 + 1 + 1 + 1 + 1 + 1 + 1 + 1 + 1 + 1 + 1 := by omega
theorem les12 (x : Nat) : x ≤ x + 1 + 1 + 1 + 1 + 1 + 1 + 1 + 1 + 1 + 1 + 1 + 1 := by omega
attribute [go_sem] lts2 les2 lts3 les3 lts4 les4 lts5 les5 lts6 les6 lts7 les7 lts8 les8 lts9 les9 lts10 les10 lts11 les11 lts12 les12
attribute [go_sem] over_cell over_frozen over_lt over_le over_os over_tape

section
variable {P : Program}
/-- A callee's contract, met in a world of the class. -/
theorem quiet_over {f : FuncId} {args : Array Value} {w x : World} {v : Value}
    (h : Calls P f args (over w x) fun e w' => e = .returned v ∧ Below (over w x).heap.size (over w x) w') : Calls P f args (over w x) fun e w'' => e = .returned v ∧ ∃ y, w'' = over w y :=
  h.mono fun _ w' ⟨he, hb⟩ => ⟨he, w', over_of ((over_below w x).trans (hb.mono (over_size w x)))⟩
theorem quiet_over_same {f : FuncId} {args : Array Value} {w x : World} {v : Value}
    (h : Calls P f args (over w x) fun e w' => e = .returned v ∧ over w x = w') : Calls P f args (over w x) fun e w'' => e = .returned v ∧ ∃ y, w'' = over w y :=
  h.mono fun _ _ ⟨he, hb⟩ => ⟨he, x, hb.symm⟩
/-- A region that draws its order, walked once in the order of the text, over the worlds in which nothing that was there has turned. -/
theorem region_over {id : Nat} {Q : Exit → Act → World → Prop} {a : Act} {w : World} {l : List Oper} (hm : P.follows .mixedOrders = true) (hB : Region.lexB .any l.toArray = true)
    (h : wpQuiet P l.toArray (fun w' => ∃ x, w' = over w x) (fun a' => ∀ w', Below w.heap.size w w' → Q .normal a' w') l a) : (Code.region id l.toArray true).wp P Q a w :=
  wp_region_quiet (C := fun w' => ∃ x, w' = over w x) hm hB ⟨w.drew, over_of ((Below.refl _ _).drew)⟩
    (by
      have : (fun a' => ∀ w', (∃ x, w' = over w x) → Q .normal a' w') = (fun a' => ∀ w', Below w.heap.size w w' → Q .normal a' w') := by
        funext a'; apply propext; constructor
        · exact fun h w' hb => h w' ⟨w', over_of hb⟩
        · rintro h _ ⟨x, rfl⟩; exact h _ (over_below _ _)
      rw [this]; exact h)
end
end Go.Proofs.Ythciikogogkfcaa
