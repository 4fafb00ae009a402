/- Puts and joins of any lists, valid or not. -/
import Derived.Test.YthciikogogkfcaaPutW
namespace Go.Proofs.Ythciikogogkfcaa
open Go.RowKit Go.Deep
set_option linter.unusedVariables false
theorem putR_bad1 {l : List Dp} {d : Dp} (h : depsOkB l = false) : putR l d = [] := by simp [putR, h]
theorem putR_bad2 {l : List Dp} {d : Dp} (h : dpOk d = false) : putR l d = [] := by simp [putR, h]
theorem putR_ok {l : List Dp} {d : Dp} (h : depsOkB l = true) (h2 : dpOk d = true) : putR l d = putF l d := by simp [putR, h, h2]
theorem putR_len (l : List Dp) (d : Dp) : (putR l d).length ≤ l.length + 1 := by
  unfold putR; split
  · exact putF_len l d
  · simp
theorem joinR_bad1 {a b : List Dp} (h : depsOkB a = false) : joinR a b = [] := by simp [joinR, h]
theorem joinR_bad2 {a b : List Dp} (h : depsOkB b = false) : joinR a b = [] := by simp [joinR, h]
theorem joinR_ok {a b : List Dp} (h : depsOkB a = true) (h2 : depsOkB b = true) : joinR a b = joinF a b := by simp [joinR, h, h2]

set_option maxHeartbeats 1000000 in
theorem DepsPut_spec (l : List Dp) (d : Dp) (a : Option Addr) (cap : Nat) (w : World) (hr : Reads w a l.length cap (dpsC l)) (hl : l.length ≤ 1048577) :
    Calls Try.prog 101 #[.slice a l.length cap, .agg #[.int .i64 d.1, .int .i64 d.2.1, .int .i64 d.2.2]] w (OwnDeps (putR l d) w) := by
  rcases hok : depsOkB l with _ | _
  · have HR := Lib.hid (putR_bad1 (d := d) hok)
    have B0 := Blk.new w #[.int .i64 d.1, .int .i64 d.2.1, .int .i64 d.2.2] 32
    have G0 := below_box w (.cells #[.int .i64 d.1, .int .i64 d.2.1, .int .i64 d.2.2] 32)
    go_enter Try.func101, Try.ntmps101
    go_wp2_with fail
    refine (depsOk_spec l a cap _ (hr.alloc _) hl).mono ?_
    rintro e w1 ⟨rfl, hb1⟩
    have B1 := B0.below hb1 B0.lt
    have G1 := below_after G0 hb1
    obtain ⟨p0, p1, p2, pf, pl⟩ := B1.three
    go_wp2
    go_ret
    exact ⟨_, rfl, by rw [HR.out]; exact World.ownsRow_made (size := 3) _ #[] 0 G1.size (by simp) (by simp), below_alloc G1 _⟩
  rcases hd : dpOk d with _ | _
  · have HR := Lib.hid (putR_bad2 (l := l) hd)
    have B0 := Blk.new w #[.int .i64 d.1, .int .i64 d.2.1, .int .i64 d.2.2] 32
    have G0 := below_box w (.cells #[.int .i64 d.1, .int .i64 d.2.1, .int .i64 d.2.2] 32)
    go_enter Try.func101, Try.ntmps101
    go_wp2_with fail
    refine (depsOk_spec l a cap _ (hr.alloc _) hl).mono ?_
    rintro e w1 ⟨rfl, hb1⟩
    have B1 := B0.below hb1 B0.lt
    have G1 := below_after G0 hb1
    obtain ⟨p0, p1, p2, pf, pl⟩ := B1.three
    go_wp2_with fail
    refine (depsOk_spec [d] (some ⟨w1.heap.size, 0, none⟩) 1 _ (reads_one w1 d _ rfl) (by simp)).mono ?_
    rintro e w2 ⟨rfl, hb2⟩
    have B2 := (B1.alloc (.cells #[.int .i64 d.1, .int .i64 d.2.1, .int .i64 d.2.2] 32)).below hb2 (B1.alloc (.cells #[.int .i64 d.1, .int .i64 d.2.1, .int .i64 d.2.2] 32)).lt
    have G2 := below_after (below_alloc G1 (.cells #[.int .i64 d.1, .int .i64 d.2.1, .int .i64 d.2.2] 32)) hb2
    have hone : depsOkB [d] = dpOk d := depsOk_one d
    go_wp2
    go_ret
    exact ⟨_, rfl, by rw [HR.out]; exact World.ownsRow_made (size := 3) _ #[] 0 G2.size (by simp) (by simp), below_alloc G2 _⟩
  · rw [show putR l d = putF l d from putR_ok hok hd]
    exact DepsPut_spec_ok l d a cap w hr hl hok hd

set_option maxHeartbeats 1000000 in
theorem cloneDeps_impl (l : List Dp) (a : Option Addr) (cap : Nat) (w : World) (hr : Reads w a l.length cap (dpsC l)) (hl : l.length ≤ 1048577) :
    Calls Try.prog 115 #[.slice a l.length cap] w (OwnDeps l w) := by
  obtain ⟨i0, hi, hz0, hz1, hz2⟩ := info_parts infoDep
  go_enter Try.func115, Try.ntmps115
  go_wp2_with (at_builtin; refine wpList_append_src _ rfl _ (.tmp 3) 25 rfl w.heap.size 32 i0 _ 3 24 Try.underlying25 hi hz0 hz1 hz2 rfl (by decide) (.slice none 0 0) 0 [] rfl (World.ownsRow_nil _ _ _ _) a l.length cap (dpsC l) rfl (dpsC_len l) hr (dpsC_one l) (by unfold maxLen; omega) (by omega) (Nat.le_refl _) ?_)
  intro v1 w1 own hg
  have hb := grown_belowN hg (Nat.le_refl _) (fun k hk => by simp [Value.ownBlock] at hk)
  go_wp2
  go_ret
  exact ⟨_, rfl, by simpa using own, hb⟩

theorem join_step {a b : List Dp} (ha : depsOkB a = true) (hb : depsOkB b = true) (k : Nat) : depsOkB (joinF a (b.take k)) = true :=
  joinF_ok ha (fun d hd => okFrom_ok hb d (List.mem_of_mem_take hd))
set_option maxHeartbeats 1000000 in
theorem join_impl (a b : List Dp) (pa pb : Option Addr) (ca cb : Nat) (w : World) (hr : Reads w pa a.length ca (dpsC a)) (hs : Reads w pb b.length cb (dpsC b)) (ha : depsOkB a = true) (hb : depsOkB b = true) :
    Calls Try.prog 134 #[.slice pa a.length ca, .slice pb b.length cb] w (OwnDeps (joinF a b) w) := by
  have hla := depsOk_len ha
  have hlb := depsOk_len hb
  go_enter Try.func134, Try.ntmps134
  go_wp2_with fail
  refine (cloneDeps_impl a pa ca _ hr (by omega)).mono ?_
  rintro e w1 ⟨v1, rfl, own1, hb1⟩
  go_wp2
  go_loopw [5, 12] (fun v i wr => ∃ k : Nat, k ≤ b.length ∧ i = .int .i64 k ∧ wr.ownsRow w.heap.size 32 3 v (joinF a (b.take k)).length (dpsC (joinF a (b.take k))) ∧ Below w.heap.size w wr) (fun _ i _ => b.length - (intOf i).toNat)
  case atStart => exact ⟨0, Nat.zero_le _, rfl, own1, hb1⟩
  case round =>
    obtain ⟨k, hk, rfl, own, hBw⟩ := hrel
    obtain ⟨p, c, rfl, rd⟩ := Reads.of_owns own
    have hst := join_step ha hb k
    have hlj := depsOk_len hst
    by_cases hlt : k < b.length
    · have hr' := hs
      obtain ⟨_, _, h3⟩ := hr'
      obtain ⟨bb, off, rfl, hob, hcell⟩ := h3 (dpsC_ne (by omega))
      obtain ⟨g0, g1, g2⟩ := dpsC_get b k hlt
      obtain ⟨c0, c1, c2, hbl⟩ := cells3 hBw hob (hcell _ _ g0) (hcell _ _ g1) (hcell _ _ g2)
      rw [← Nat.add_assoc] at c1 c2
      have hi0 : (0 : Int) ≤ (k : Int) := by omega
      have hi1 : (k : Int) < (b.length : Int) := by omega
      clear hcell g0 g1 g2 h3
      have HJ := Lib.hid (joinF_take a b k hlt)
      have B1 := Blk.new wr #[.int .i64 b[k].1, .int .i64 b[k].2.1, .int .i64 b[k].2.2] 32
      have G1 := below_alloc hBw (.cells #[.int .i64 b[k].1, .int .i64 b[k].2.1, .int .i64 b[k].2.2] 32)
      go_wp2_with fail
      refine (put_impl (joinF a (b.take k)) b[k] p c _ (rd.alloc _) (by omega) hst).mono ?_
      rintro e w2 ⟨v2, rfl, own2, hb2⟩
      have G2 := below_after G1 hb2
      go_wp2
      go_roundw
      case rel => exact ⟨k + 1, by omega, by go_num, by rw [HJ.out]; exact own_base own2 G1.size, G2⟩
      case measure => simp [intOf]; omega
    · obtain rfl : k = b.length := by omega
      have HT : Hid (joinF a (b.take b.length) = joinF a b) := by show _ = _; rw [List.take_length]
      go_wp2
      go_ret
      exact ⟨_, rfl, by rw [← HT.out]; exact own, hBw⟩

set_option maxHeartbeats 1000000 in
theorem DepsJoin_spec (a b : List Dp) (pa pb : Option Addr) (ca cb : Nat) (w : World) (hr : Reads w pa a.length ca (dpsC a)) (hs : Reads w pb b.length cb (dpsC b)) (hla : a.length ≤ 1048577) (hlb : b.length ≤ 1048577) :
    Calls Try.prog 102 #[.slice pa a.length ca, .slice pb b.length cb] w (OwnDeps (joinR a b) w) := by
  obtain ⟨i0, hi, hz0, hz1, hz2⟩ := info_parts infoDep
  go_enter Try.func102, Try.ntmps102
  go_wp2_with fail
  refine (depsOk_spec a pa ca _ hr hla).mono ?_
  rintro e w1 ⟨rfl, hb1⟩
  rcases hok : depsOkB a with _ | _
  · have HR := Lib.hid (joinR_bad1 (b := b) hok)
    go_wp2
    go_ret
    exact ⟨_, rfl, by rw [HR.out]; exact World.ownsRow_made (size := 3) _ #[] 0 hb1.size (by simp) (by simp), below_alloc hb1 _⟩
  go_wp2_with fail
  refine (depsOk_spec b pb cb _ (hs.below hb1) hlb).mono ?_
  rintro e w2 ⟨rfl, hb2⟩
  have G2 := below_after hb1 hb2
  rcases hd : depsOkB b with _ | _
  · have HR := Lib.hid (joinR_bad2 (a := a) hd)
    go_wp2
    go_ret
    exact ⟨_, rfl, by rw [HR.out]; exact World.ownsRow_made (size := 3) _ #[] 0 G2.size (by simp) (by simp), below_alloc G2 _⟩
  have HR := Lib.hid (joinR_ok hok hd)
  have h1 := Lib.hid hok
  have h2 := Lib.hid hd
  have own0 := World.ownsRow_made (base := w.heap.size) (size := 3) (e := 32) w2 #[] 0 G2.size (by simp) (by simp)
  have hsz := G2.size
  go_wp2_with (at_builtin; refine wpList_append_src _ rfl (.tmp 16) (.tmp 17) 25 rfl w.heap.size 32 i0 _ 3 24 Try.underlying25 hi hz0 hz1 hz2 rfl (by decide) _ _ _ rfl own0 pa a.length ca (dpsC a) rfl (dpsC_len a) ((hr.below G2).alloc _) (dpsC_one a) (by unfold maxLen; omega) (by omega) (by simp; omega) ?_)
  intro v3 w3 own3 hg3
  have hb3 := below_app (below_alloc G2 (.cells #[] 32)) own0 hg3 (Nat.le_refl _) (by simp; omega)
  have own3 : w3.ownsRow w.heap.size 32 3 v3 a.length (dpsC a) := by simpa using own3
  clear hg3 own0
  go_wp2
  go_loopw [5, 6] (fun v i wr => ∃ k : Nat, k ≤ b.length ∧ i = .int .i64 k ∧ wr.ownsRow w.heap.size 32 3 v (joinF a (b.take k)).length (dpsC (joinF a (b.take k))) ∧ Below w.heap.size w wr) (fun _ i _ => b.length - (intOf i).toNat)
  case atStart => exact ⟨0, Nat.zero_le _, rfl, own3, hb3⟩
  case round =>
    obtain ⟨k, hk, rfl, own, hBw⟩ := hrel
    obtain ⟨p, c, rfl, rd⟩ := Reads.of_owns own
    have hst := join_step h1.out h2.out k
    have hlj := depsOk_len hst
    by_cases hlt : k < b.length
    · have hr' := hs
      obtain ⟨_, _, h3⟩ := hr'
      obtain ⟨bb, off, rfl, hob, hcell⟩ := h3 (dpsC_ne (by omega))
      obtain ⟨g0, g1, g2⟩ := dpsC_get b k hlt
      obtain ⟨c0, c1, c2, hbl⟩ := cells3 hBw hob (hcell _ _ g0) (hcell _ _ g1) (hcell _ _ g2)
      rw [← Nat.add_assoc] at c1 c2
      have hi0 : (0 : Int) ≤ (k : Int) := by omega
      have hi1 : (k : Int) < (b.length : Int) := by omega
      clear hcell g0 g1 g2 h3
      have HJ := Lib.hid (joinF_take a b k hlt)
      have HP := Lib.hid (putR_ok (d := b[k]) hst (okFrom_ok h2.out _ (List.getElem_mem hlt)))
      go_wp2_with fail
      refine (DepsPut_spec (joinF a (b.take k)) b[k] p c _ rd (by omega)).mono ?_
      rintro e w2 ⟨v2, rfl, own2, hb2⟩
      have G2 := below_after hBw hb2
      go_wp2
      go_roundw
      case rel => exact ⟨k + 1, by omega, by go_num, by rw [HJ.out, ← HP.out]; exact own_base own2 hBw.size, G2⟩
      case measure => simp [intOf]; omega
    · obtain rfl : k = b.length := by omega
      have HT : Hid (joinF a (b.take b.length) = joinF a b) := by show _ = _; rw [List.take_length]
      go_wp2
      go_ret
      exact ⟨_, rfl, by rw [HR.out, ← HT.out]; exact own, hBw⟩

theorem atF_take {l : List Dp} {key : Int} {k : Nat} (h : k < l.length) (hn : ∀ e ∈ l.take k, e.1 ≠ key) (he : l[k].1 = key) : atF l key = l[k].2 := by
  induction l generalizing k with
  | nil => simp at h
  | cons e l ih =>
    cases k with
    | zero => simp only [List.getElem_cons_zero] at he ⊢; rw [atF, if_pos he]
    | succ k =>
      rw [atF, if_neg (hn e (by simp))]
      exact ih (by simpa using h) (fun x hx => hn x (by simp [hx])) (by simpa using he)
theorem atF_none {l : List Dp} {key : Int} (hn : ∀ e ∈ l, e.1 ≠ key) : atF l key = (0, 0) := by
  induction l with
  | nil => rfl
  | cons e l ih => rw [atF, if_neg (hn e (by simp))]; exact ih (fun x hx => hn x (by simp [hx]))
theorem none_take {l : List Dp} {key : Int} {k : Nat} (h : k < l.length) (hn : ∀ e ∈ l.take k, e.1 ≠ key) (he : l[k].1 ≠ key) : ∀ e ∈ l.take (k + 1), e.1 ≠ key := by
  intro e hm
  rw [List.take_succ_eq_append_getElem h] at hm
  rcases List.mem_append.1 hm with hm | hm
  · exact hn e hm
  · simp only [List.mem_singleton] at hm; subst hm; exact he
/-- A stamp comes back, and nothing old has turned. -/
def GivesSt (s : Int × Int) (w : World) (e : Ending) (w' : World) : Prop := e = .returned (.agg #[.int .i64 s.1, .int .i64 s.2]) ∧ Below w.heap.size w w'
theorem gives_eq {s : Int × Int} {x y : Int} (h : s = (x, y)) : Ending.returned (.agg #[.int .i64 x, .int .i64 y]) = .returned (.agg #[.int .i64 s.1, .int .i64 s.2]) := by subst h; rfl
theorem gives_zero {s : Int × Int} (h : s = (0, 0)) : Ending.returned (.agg #[.int .i64 0, .int .i64 0]) = .returned (.agg #[.int .i64 s.1, .int .i64 s.2]) := by subst h; rfl

end Go.Proofs.Ythciikogogkfcaa
