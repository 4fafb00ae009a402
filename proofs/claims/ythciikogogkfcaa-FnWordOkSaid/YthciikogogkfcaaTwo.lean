/- Two lists of versions side by side in memory of one's own, and what an append to one of them leaves. No program in sight. -/
import Derived.Test.YthciikogogkfcaaMarkP
import Derived.Deep.AppendLies
namespace Go.Proofs.Ythciikogogkfcaa
open Go.RowKit Go.Deep
set_option linter.unusedVariables false

theorem add_zero_cells (b j : Nat) : (⟨b, 0, none⟩ : Addr).add j = ⟨b, j, none⟩ := by
  unfold Addr.add; split
  · rename_i h; subst h; rfl
  · rw [Nat.zero_add]
theorem cells_at (w : World) (cs : Array Value) (T : TypeId) {b : Nat} (hb : b = w.heap.size) {xs : List Value} (hx : cs.toList = xs) : ∀ j u, xs[j]? = some u → (w.alloc (.cells cs T)).cell? ((⟨b, 0, none⟩ : Addr).add j) = some u := by
  subst hb; subst hx
  intro j u hj
  rw [add_zero_cells]
  exact (Blk.new w cs T).cell j (by simpa using hj)
/-- One more among them. -/
theorem OwnIn.insert {N M : Nat} {w : World} {A B : List Mv} {m : Mv} (h : OwnIn N w (A ++ B)) (own : w.ownsRow M 32 3 (.slice m.a m.v.deps.length m.c) m.v.deps.length (dpsC m.v.deps)) (hN : N ≤ M)
    (hM : ∀ x ∈ A ++ B, ∀ b, blkOf x = some b → b < M) : OwnIn N w (A ++ m :: B) := by
  have key : ∀ x ∈ A ++ B, Apart x m := fun x hx => by
    cases hb : blkOf x with
    | none => exact .inl hb
    | some b =>
      right
      intro e
      have h1 := hM x hx b hb
      have h2 := (own.lt b (by rw [hb] at e; exact e.symm)).1
      omega
  have hp := h.apart
  rw [List.pairwise_append] at hp
  obtain ⟨pA, pB, pAB⟩ := hp
  refine ⟨fun x hx => ?_, ?_⟩
  · rcases List.mem_append.1 hx with hx | hx
    · exact h.row x (by simp [hx])
    · rcases List.mem_cons.1 hx with rfl | hx
      · exact own_base own hN
      · exact h.row x (by simp [hx])
  · rw [List.pairwise_append, List.pairwise_cons]
    refine ⟨pA, ⟨fun y hy => (key y (by simp [hy])).symm, pB⟩, fun x hx y hy => ?_⟩
    rcases List.mem_cons.1 hy with rfl | hy
    · exact key x (by simp [hx])
    · exact pAB x hx y hy
structure OwnTwo (N : Nat) (w : World) (v u : Value) (A B : List Mv) : Prop where
  ra : w.ownsRow N 27 7 v A.length (mvsC A)
  rb : w.ownsRow N 27 7 u B.length (mvsC B)
  ap : v.ownBlock = none ∨ v.ownBlock ≠ u.ownBlock
  inn : OwnIn N w (A ++ B)
theorem ap_symm {v u : Value} (h : v.ownBlock = none ∨ v.ownBlock ≠ u.ownBlock) : u.ownBlock = none ∨ u.ownBlock ≠ v.ownBlock := by
  cases hu : u.ownBlock with
  | none => exact .inl rfl
  | some b =>
    right
    rcases h with h | h
    · rw [h]; simp
    · intro e; exact h (by rw [hu, e])
theorem OwnTwo.swap {N : Nat} {w : World} {v u : Value} {A B : List Mv} (h : OwnTwo N w v u A B) : OwnTwo N w u v B A := by
  refine ⟨h.rb, h.ra, ap_symm h.ap, fun m hm => h.inn.row m (by simp only [List.mem_append] at hm ⊢; exact hm.symm), ?_⟩
  have hp := h.inn.apart
  rw [List.pairwise_append] at hp ⊢
  exact ⟨hp.2.1, hp.1, fun x hx y hy => (hp.2.2 y hy x hx).symm⟩
theorem OwnTwo.below {N : Nat} {w w' : World} {v u : Value} {A B : List Mv} (h : OwnTwo N w v u A B) (hb : Below w.heap.size w w') : OwnTwo N w' v u A B := ⟨own_below h.ra hb, own_below h.rb hb, h.ap, h.inn.below hb⟩
theorem OwnTwo.base {N M : Nat} {w : World} {v u : Value} {A B : List Mv} (h : OwnTwo N w v u A B) (hM : M ≤ N) : OwnTwo M w v u A B := ⟨own_base h.ra hM, own_base h.rb hM, h.ap, h.inn.base hM⟩
theorem OwnTwo.nil (N : Nat) (w : World) : OwnTwo N w (.slice none 0 0) (.slice none 0 0) [] [] := ⟨World.ownsRow_nil _ _ _ _, World.ownsRow_nil _ _ _ _, .inl rfl, OwnIn.nil _ _⟩
theorem OwnTwo.made (w : World) : OwnTwo w.heap.size ((w.alloc (.cells #[] 27)).alloc (.cells #[] 27)) (.slice (some ⟨w.heap.size, 0, none⟩) 0 0) (.slice (some ⟨w.heap.size + 1, 0, none⟩) 0 0) [] [] := by
  have h1 := World.ownsRow_made (base := w.heap.size) (size := 7) (e := 27) w #[] 0 (Nat.le_refl _) (by simp) (by simp)
  have h2 := World.ownsRow_made (base := w.heap.size) (size := 7) (e := 27) (w.alloc (.cells #[] 27)) #[] 0 (by simp) (by simp) (by simp)
  simp only [World.size_alloc] at h2
  exact ⟨own_below h1 (below_box _ _), h2, .inr (by simp [Value.ownBlock]), OwnIn.nil _ _⟩
theorem OwnTwo.fst {N : Nat} {w : World} {v u : Value} {A B : List Mv} (h : OwnTwo N w v u A B) : OwnVers N w v A := by
  have hp := h.inn.apart
  rw [List.pairwise_append] at hp
  exact ⟨h.ra, fun m hm => h.inn.row m (by simp [hm]), hp.1⟩
theorem OwnTwo.snd {N : Nat} {w : World} {v u : Value} {A B : List Mv} (h : OwnTwo N w v u A B) : OwnVers N w u B := h.swap.fst
theorem OwnTwo.disj {N : Nat} {w : World} {v u : Value} {A B : List Mv} (h : OwnTwo N w v u A B) : ∀ i, BlksOf v A i → ¬ BlksOf u B i := by
  have hp := h.inn.apart
  rw [List.pairwise_append] at hp
  have no : ∀ {x y : Option Nat} {i : Nat}, (x = none ∨ x ≠ y) → x = some i → y ≠ some i := fun h e e' => by
    rcases h with h | h
    · rw [h] at e; cases e
    · exact h (by rw [e, e'])
  rintro i (hi | ⟨m, hm, hi⟩) (hj | ⟨m', hm', hj⟩)
  · exact no h.ap hi hj
  · exact no (own_types h.ra (h.inn.row m' (by simp [hm'])) (by decide)) hi hj
  · exact no (own_types (h.inn.row m (by simp [hm])) h.rb (by decide)) hi hj
  · exact no (hp.2.2 m hm m' hm') hi hj
/-- Behind an append to the first. -/
theorem OwnTwo.app {N M g cap H n : Nat} {W w' : World} {v u : Value} {A B : List Mv} {m : Mv} {xs : List Value} (h : OwnTwo N W v u A B)
    (own5 : w'.ownsRow N 27 7 (.slice (some ⟨g, 0, none⟩) n cap) n xs) (hn : n = (A ++ [m]).length) (hxs : xs = mvsC (A ++ [m])) (hg : W.grownBy w' v.ownBlock) (hor : v.ownBlock = some g ∨ g = H) (hH : W.heap.size ≤ H)
    (own : W.ownsRow M 32 3 (.slice m.a m.v.deps.length m.c) m.v.deps.length (dpsC m.v.deps)) (hN : N ≤ M) (hM : ∀ x ∈ A ++ B, ∀ b, blkOf x = some b → b < M) :
    OwnTwo N w' (.slice (some ⟨g, 0, none⟩) n cap) u (A ++ [m]) B := by
  subst hn; subst hxs
  have inn := h.inn.insert own hN hM
  refine ⟨own5, h.rb.kept hg (ap_symm h.ap), ?_, ?_⟩
  · right
    intro e
    rcases hor with hor | rfl
    · rcases h.ap with h' | h'
      · rw [h'] at hor; cases hor
      · exact h' (by rw [hor]; exact e)
    · have := (h.rb.lt g e.symm).2; omega
  · rw [show (A ++ [m]) ++ B = A ++ m :: B by simp]
    exact ⟨fun x hx => (inn.row x hx).kept hg (own_types (inn.row x hx) h.ra (by decide)), inn.apart⟩
/-- Two lists come back. -/
def GivesTwo (la lb : List Vp) (w : World) (e : Ending) (w' : World) : Prop := ∃ v u A B, e = .returned (.tuple #[v, u]) ∧ vs A = la ∧ vs B = lb ∧ OwnTwo w.heap.size w' v u A B ∧ Below w.heap.size w w'
theorem OwnVers.lts {N : Nat} {w : World} {v : Value} {l : List Mv} (h : OwnVers N w v l) : ∀ x ∈ l, ∀ b, blkOf x = some b → b < w.heap.size := fun x hx b hb => (h.inn.lt x hx b hb).2
theorem OwnTwo.lts {N : Nat} {w : World} {v u : Value} {A B : List Mv} (h : OwnTwo N w v u A B) : ∀ x ∈ A ++ B, ∀ b, blkOf x = some b → b < w.heap.size := fun x hx b hb => (h.inn.lt x hx b hb).2
/-- Behind an append to a list. -/
theorem OwnVers.app {N M g cap n : Nat} {W w' : World} {v : Value} {A : List Mv} {m : Mv} {xs : List Value} (h : OwnVers N W v A)
    (own5 : w'.ownsRow N 27 7 (.slice (some ⟨g, 0, none⟩) n cap) n xs) (hn : n = (A ++ [m]).length) (hxs : xs = mvsC (A ++ [m])) (hg : W.grownBy w' v.ownBlock)
    (own : W.ownsRow M 32 3 (.slice m.a m.v.deps.length m.c) m.v.deps.length (dpsC m.v.deps)) (hN : N ≤ M) (hM : ∀ x ∈ A, ∀ b, blkOf x = some b → b < M) :
    OwnVers N w' (.slice (some ⟨g, 0, none⟩) n cap) (A ++ [m]) := by
  subst hn; subst hxs
  have inn := h.inn.snoc own hN hM
  exact ⟨own5, fun x hx => (inn.row x hx).kept hg (own_types (inn.row x hx) h.own (by decide)), inn.apart⟩
end Go.Proofs.Ythciikogogkfcaa
