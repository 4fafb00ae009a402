/- A call's parts: the program's functions. -/
import Derived.Test.YthciikogogkfcaaCallP
import Derived.Test.YthciikogogkfcaaServW
namespace Go.Proofs.Ythciikogogkfcaa
open Go.RowKit Go.Deep
set_option linter.unusedVariables false

theorem Blk.call {w : World} {b : Nat} {x0 x1 x2 x3 x4 x5 x6 x7 x8 x9 x10 x11 x12 : Value} {T : TypeId} (h : Blk w b #[x0, x1, x2, x3, x4, x5, x6, x7, x8, x9, x10, x11, x12] T) :
    w.cell? ⟨b, 0, none⟩ = some x0 ∧ w.cell? ⟨b, 1, none⟩ = some x1 ∧ w.cell? ⟨b, 2, none⟩ = some x2 ∧ w.cell? ⟨b, 3, none⟩ = some x3 ∧ w.cell? ⟨b, 4, none⟩ = some x4 ∧ w.cell? ⟨b, 5, none⟩ = some x5 ∧ w.cell? ⟨b, 6, none⟩ = some x6 ∧ w.cell? ⟨b, 7, none⟩ = some x7 ∧ w.cell? ⟨b, 8, none⟩ = some x8 ∧ w.cell? ⟨b, 9, none⟩ = some x9 ∧ w.cell? ⟨b, 10, none⟩ = some x10 ∧ w.cell? ⟨b, 11, none⟩ = some x11 ∧ w.cell? ⟨b, 12, none⟩ = some x12 ∧ (∀ o, w.frozen? ⟨b, o, none⟩ = false) ∧ b < w.heap.size :=
  ⟨h.cell 0 rfl, h.cell 1 rfl, h.cell 2 rfl, h.cell 3 rfl, h.cell 4 rfl, h.cell 5 rfl, h.cell 6 rfl, h.cell 7 rfl, h.cell 8 rfl, h.cell 9 rfl, h.cell 10 rfl, h.cell 11 rfl, h.cell 12 rfl, h.free, h.lt⟩
theorem Blk.nine {w : World} {b : Nat} {x0 x1 x2 x3 x4 x5 x6 x7 x8 : Value} {T : TypeId} (h : Blk w b #[x0, x1, x2, x3, x4, x5, x6, x7, x8] T) :
    w.cell? ⟨b, 0, none⟩ = some x0 ∧ w.cell? ⟨b, 1, none⟩ = some x1 ∧ w.cell? ⟨b, 2, none⟩ = some x2 ∧ w.cell? ⟨b, 3, none⟩ = some x3 ∧ w.cell? ⟨b, 4, none⟩ = some x4 ∧ w.cell? ⟨b, 5, none⟩ = some x5 ∧ w.cell? ⟨b, 6, none⟩ = some x6 ∧ w.cell? ⟨b, 7, none⟩ = some x7 ∧ w.cell? ⟨b, 8, none⟩ = some x8 ∧ (∀ o, w.frozen? ⟨b, o, none⟩ = false) ∧ b < w.heap.size :=
  ⟨h.cell 0 rfl, h.cell 1 rfl, h.cell 2 rfl, h.cell 3 rfl, h.cell 4 rfl, h.cell 5 rfl, h.cell 6 rfl, h.cell 7 rfl, h.cell 8 rfl, h.free, h.lt⟩
/-- A key among keys. -/
theorem key_cell {w : World} {a : Option Addr} {c : Nat} {l : List Int} (hr : Reads w a l.length c (intsC l)) (k : Nat) (hk : k < l.length) : ∃ b off, a = some ⟨b, off, none⟩ ∧ b < w.heap.size ∧ w.cell? ⟨b, off + k, none⟩ = some (.int .i64 l[k]) := by
  obtain ⟨_, _, h3⟩ := hr
  obtain ⟨b, off, rfl, hbl, hcell⟩ := h3 (intsC_ne (by omega))
  exact ⟨b, off, rfl, hbl, hcell _ _ (intsC_get l k hk)⟩
set_option maxHeartbeats 1000000 in
theorem indexK_impl (l : List Int) (a : Option Addr) (c : Nat) (k : Int) (w : World) (hr : Reads w a l.length c (intsC l)) (hl : l.length ≤ 1048577) :
    Calls Try.prog 137 #[.slice a l.length c, .int .i64 k] w fun e w' => e = .returned (.int .i64 (idxK l k)) ∧ w = w' := by
  go_enter Try.func137, Try.ntmps137
  go_wp2
  go_loop [5, 8] (fun _ i => ∃ j : Nat, j ≤ l.length ∧ i = .int .i64 j ∧ hasK (l.take j) k = false) (fun _ i => l.length - (intOf i).toNat)
  case atStart => exact ⟨0, Nat.zero_le _, rfl, rfl⟩
  case round =>
    obtain ⟨j, hj, rfl, hno⟩ := hrel
    have HO := Lib.hid hno
    clear hno
    by_cases hlt : j < l.length
    · have hi0 : (0 : Int) ≤ (j : Int) := by omega
      have hi1 : (j : Int) < (l.length : Int) := by omega
      obtain ⟨b, off, rfl, hbl, c0⟩ := key_cell hr j hlt
      have c0' : w.cell? ⟨b, off + j * 1, none⟩ = some (.int .i64 l[j]) := by rw [Nat.mul_one]; exact c0
      have HT := Lib.hid (hasK_take l k j hlt)
      by_cases he : l[j] = k
      · have HN : Hid (idxK l k = (j : Int)) := idxK_hit hlt HO.out he
        have he' : (k == l[j]) = true := by simp [he]
        clear he
        go_wp2
        go_ret
        exact ⟨by rw [HN.out]; rfl, rfl⟩
      · have HN : Hid (hasK (l.take (j + 1)) k = false) := by show _ = _; rw [HT.out, HO.out, decide_eq_false he]; rfl
        have he' : (k == l[j]) = false := by simpa using fun h : k = l[j] => he h.symm
        clear he
        go_wp2
        go_round
        case rel => exact ⟨j + 1, by omega, by go_num, HN.out⟩
        case measure => simp [intOf]; omega
    · obtain rfl : j = l.length := by omega
      have HN : Hid (idxK l k = -1) := idxK_miss (by have := HO.out; rwa [List.take_length] at this)
      go_wp2
      go_ret
      exact ⟨by rw [HN.out]; rfl, rfl⟩
theorem contains_impl (l : List Int) (a : Option Addr) (c : Nat) (k : Int) (w : World) (hr : Reads w a l.length c (intsC l)) (hl : l.length ≤ 1048577) :
    Calls Try.prog 128 #[.slice a l.length c, .int .i64 k] w fun e w' => e = .returned (.bool (hasK l k)) ∧ w = w' := by
  go_enter Try.func128, Try.ntmps128
  go_wp2_with fail
  refine (indexK_impl l a c k _ hr hl).mono ?_
  rintro e w' ⟨rfl, rfl⟩
  have HG := Lib.hid (idxK_ge (l := l) (k := k))
  go_wp2
  go_ret
  exact ⟨by rw [← HG.out]; rfl, rfl⟩

theorem gotFn_impl (key : Int) (yes : Bool) (v : Vp) (a : Option Addr) (c : Nat) (k : Int) (B : Nat) (w : World) (hB : Blk w B #[.int .i64 k] 3) :
    Calls Try.prog 139 #[.agg #[.int .i64 key, .bool yes, .int .i64 v.key, .int .i64 v.time, .int .i64 v.site, .int .i64 v.val, .int .i64 v.client, .int .i64 v.call, .slice a v.deps.length c], .pointer (some ⟨B, 0, none⟩)] w fun e w' => e = .returned (.bool (decide (key = k))) ∧ Below w.heap.size w w' := by
  have G0 := below_box w (.cells #[.int .i64 key, .bool yes, .int .i64 v.key, .int .i64 v.time, .int .i64 v.site, .int .i64 v.val, .int .i64 v.client, .int .i64 v.call, .slice a v.deps.length c] 114)
  have BV := Blk.new w #[.int .i64 key, .bool yes, .int .i64 v.key, .int .i64 v.time, .int .i64 v.site, .int .i64 v.val, .int .i64 v.client, .int .i64 v.call, .slice a v.deps.length c] 114
  have hB := hB.alloc (.cells #[.int .i64 key, .bool yes, .int .i64 v.key, .int .i64 v.time, .int .i64 v.site, .int .i64 v.val, .int .i64 v.client, .int .i64 v.call, .slice a v.deps.length c] 114)
  obtain ⟨p0, p1, p2, p3, p4, p5, p6, p7, p8, pf, pl⟩ := BV.nine
  obtain ⟨q0, qf, ql⟩ := hB.one
  by_cases h : key = k
  · have h' : (key == k) = true := by simpa using h
    have HR : Hid (decide (key = k) = true) := by show _ = _; exact decide_eq_true h
    clear h
    go_enter Try.func139, Try.ntmps139
    go_wp2
    go_ret
    exact ⟨by rw [HR.out]; rfl, G0⟩
  · have h' : (key == k) = false := by simpa using h
    have HR : Hid (decide (key = k) = false) := by show _ = _; exact decide_eq_false h
    clear h
    go_enter Try.func139, Try.ntmps139
    go_wp2
    go_ret
    exact ⟨by rw [HR.out]; rfl, G0⟩

set_option maxHeartbeats 2000000 in
theorem indexA_impl (l : List An) (a : Option Addr) (c : Nat) (q : Int) (B : Nat) (w : World) (hvs : Ans w a c l) (hl : l.length ≤ 1048577) (hB : Blk w B #[.int .i64 q] 3) :
    Calls Try.prog 138 #[.slice a l.length c, .func (.func 139) #[] #[.pointer (some ⟨B, 0, none⟩)]] w fun e w' => e = .returned (.int .i64 (idxA (ps l) q)) ∧ Below w.heap.size w w' := by
  have eg : ∀ args w, (callFunc 139 args).run Try.prog w = .ok (.enter 139 args) w := enters_of Try.func139 (by kernel_rfl) rfl
  go_enter Try.func138, Try.ntmps138
  go_wp2
  go_loopw [5, 8] (fun _ i wr => ∃ k : Nat, k ≤ l.length ∧ i = .int .i64 k ∧ (∀ v ∈ (ps l).take k, v.key ≠ q) ∧ Below w.heap.size w wr) (fun _ i _ => l.length - (intOf i).toNat)
  case atStart => exact ⟨0, Nat.zero_le _, rfl, by simp, Below.refl _ _⟩
  case round =>
    obtain ⟨k, hk, rfl, hno, hBw⟩ := hrel
    have HO := Lib.hid hno
    clear hno
    by_cases hlt : k < l.length
    · have hv := hvs.below hBw
      have hi0 : (0 : Int) ≤ (k : Int) := by omega
      have hi1 : (k : Int) < (l.length : Int) := by omega
      obtain ⟨b, off, hab, hbl, c0, c1, c2, c3, c4, c5, c6, c7, c8⟩ := hv.at_ k hlt
      subst hab
      have hcall := (gotFn_impl _ _ _ _ _ q B _ (hB.below hBw hB.lt)) |> (fun (h : Calls Try.prog 139 #[.agg #[.int .i64 l[k].p.key, .bool l[k].p.yes, .int .i64 l[k].p.v.key, .int .i64 l[k].p.v.time, .int .i64 l[k].p.v.site, .int .i64 l[k].p.v.val, .int .i64 l[k].p.v.client, .int .i64 l[k].p.v.call, .slice l[k].a l[k].p.v.deps.length l[k].c], .pointer (some ⟨B, 0, none⟩)] wr _) => h)
      by_cases his : l[k].p.key = q
      · have HN : Hid (idxA (ps l) q = (k : Int)) := idxA_hit (by rw [ps_len]; exact hlt) HO.out (by rw [ps_get l k hlt]; exact his)
        rw [decide_eq_true his] at hcall
        clear his
        go_wp2_with (go_at_fn 139; refine hcall.mono ?_; rintro e w1 ⟨rfl, hb1⟩)
        go_ret
        exact ⟨by rw [HN.out]; rfl, below_after hBw hb1⟩
      · have HN : Hid (∀ v ∈ (ps l).take (k + 1), v.key ≠ q) := noneA_take (by rw [ps_len]; exact hlt) HO.out (by rw [ps_get l k hlt]; exact his)
        rw [decide_eq_false his] at hcall
        clear his
        go_wp2_with (go_at_fn 139; refine hcall.mono ?_; rintro e w1 ⟨rfl, hb1⟩)
        go_roundw
        case rel => exact ⟨k + 1, by omega, by go_num, HN.out, below_after hBw hb1⟩
        case measure => simp [intOf]; omega
    · obtain rfl : k = l.length := by omega
      have HN : Hid (idxA (ps l) q = -1) := idxA_miss (by have := HO.out; rwa [← ps_len l, List.take_length] at this)
      go_wp2
      go_ret
      exact ⟨by rw [HN.out]; rfl, hBw⟩

set_option maxHeartbeats 1000000 in
theorem got_impl (x : Mc) (q : Int) (w : World) (hvs : Ans w x.ga x.gc x.got) (hl : x.got.length ≤ 1048577) :
    Calls Try.prog 130 #[.agg #[.int .i64 x.client, .int .i64 x.num, .int .i64 x.kind, .slice x.ka x.keys.length x.kc, .int .i64 x.val, .slice x.xa x.ctx.length x.xc, .int .i64 x.beg, .int .i64 x.fin, .bool x.over, .int .i64 x.time, .int .i64 x.site, .slice x.ga x.got.length x.gc, .slice x.na x.needs.length x.nc], .int .i64 q] w fun e w' => e = .returned (.int .i64 (idxA (ps x.got) q)) ∧ Below w.heap.size w w' := by
  have hmf : ∀ (fn : Fn) (first cap : Array Value) (w : World), (Instr.makeFunc fn first cap).run Try.prog w = .ok (.func fn first cap) w := fun _ _ _ _ => rfl
  have BC := (Blk.new w #[.int .i64 x.client, .int .i64 x.num, .int .i64 x.kind, .slice x.ka x.keys.length x.kc, .int .i64 x.val, .slice x.xa x.ctx.length x.xc, .int .i64 x.beg, .int .i64 x.fin, .bool x.over, .int .i64 x.time, .int .i64 x.site, .slice x.ga x.got.length x.gc, .slice x.na x.needs.length x.nc] 73).alloc (.cells #[.int .i64 q] 3)
  have BD := Blk.new (w.alloc (.cells #[.int .i64 x.client, .int .i64 x.num, .int .i64 x.kind, .slice x.ka x.keys.length x.kc, .int .i64 x.val, .slice x.xa x.ctx.length x.xc, .int .i64 x.beg, .int .i64 x.fin, .bool x.over, .int .i64 x.time, .int .i64 x.site, .slice x.ga x.got.length x.gc, .slice x.na x.needs.length x.nc] 73)) #[.int .i64 q] 3
  simp only [World.size_alloc] at BD
  have G0 := below_box2 w (.cells #[.int .i64 x.client, .int .i64 x.num, .int .i64 x.kind, .slice x.ka x.keys.length x.kc, .int .i64 x.val, .slice x.xa x.ctx.length x.xc, .int .i64 x.beg, .int .i64 x.fin, .bool x.over, .int .i64 x.time, .int .i64 x.site, .slice x.ga x.got.length x.gc, .slice x.na x.needs.length x.nc] 73) (.cells #[.int .i64 q] 3)
  obtain ⟨p0, p1, p2, p3, p4, p5, p6, p7, p8, p9, p10, p11, p12, pf, pl⟩ := BC.call
  obtain ⟨q0, qf, ql⟩ := BD.one
  go_enter Try.func130, Try.ntmps130
  go_wp2_with fail
  refine (indexA_impl x.got x.ga x.gc q (w.heap.size + 1) _ (hvs.below G0) hl BD).mono ?_
  rintro e w1 ⟨rfl, hb1⟩
  go_wp2
  go_ret
  exact ⟨rfl, below_after G0 hb1⟩
theorem answered_impl (x : Mc) (w : World) :
    Calls Try.prog 98 #[.agg #[.int .i64 x.client, .int .i64 x.num, .int .i64 x.kind, .slice x.ka x.keys.length x.kc, .int .i64 x.val, .slice x.xa x.ctx.length x.xc, .int .i64 x.beg, .int .i64 x.fin, .bool x.over, .int .i64 x.time, .int .i64 x.site, .slice x.ga x.got.length x.gc, .slice x.na x.needs.length x.nc]] w fun e w' => e = .returned (.bool (decide (x.got.length = x.keys.length))) ∧ Below w.heap.size w w' := by
  have BC := Blk.new w #[.int .i64 x.client, .int .i64 x.num, .int .i64 x.kind, .slice x.ka x.keys.length x.kc, .int .i64 x.val, .slice x.xa x.ctx.length x.xc, .int .i64 x.beg, .int .i64 x.fin, .bool x.over, .int .i64 x.time, .int .i64 x.site, .slice x.ga x.got.length x.gc, .slice x.na x.needs.length x.nc] 73
  have G0 := below_box w (.cells #[.int .i64 x.client, .int .i64 x.num, .int .i64 x.kind, .slice x.ka x.keys.length x.kc, .int .i64 x.val, .slice x.xa x.ctx.length x.xc, .int .i64 x.beg, .int .i64 x.fin, .bool x.over, .int .i64 x.time, .int .i64 x.site, .slice x.ga x.got.length x.gc, .slice x.na x.needs.length x.nc] 73)
  obtain ⟨p0, p1, p2, p3, p4, p5, p6, p7, p8, p9, p10, p11, p12, pf, pl⟩ := BC.call
  by_cases h : x.got.length = x.keys.length
  · have h' : ((x.got.length : Int) == (x.keys.length : Int)) = true := by simp [h]
    have HR : Hid (decide (x.got.length = x.keys.length) = true) := by show _ = _; exact decide_eq_true h
    clear h
    go_enter Try.func98, Try.ntmps98
    go_wp2
    go_ret
    exact ⟨by rw [HR.out]; rfl, G0⟩
  · have h' : ((x.got.length : Int) == (x.keys.length : Int)) = false := by simp; omega
    have HR : Hid (decide (x.got.length = x.keys.length) = false) := by show _ = _; exact decide_eq_false h
    clear h
    go_enter Try.func98, Try.ntmps98
    go_wp2
    go_ret
    exact ⟨by rw [HR.out]; rfl, G0⟩

theorem older_impl (key : Int) (yes : Bool) (v : Vp) (a : Option Addr) (c : Nat) (t s : Int) (w : World) :
    Calls Try.prog 131 #[.agg #[.int .i64 key, .bool yes, .int .i64 v.key, .int .i64 v.time, .int .i64 v.site, .int .i64 v.val, .int .i64 v.client, .int .i64 v.call, .slice a v.deps.length c], .agg #[.int .i64 t, .int .i64 s]] w fun e w' => e = .returned (.bool (!yes || stampLessB v.time v.site t s)) ∧ Below w.heap.size w w' := by
  have BA := (Blk.new w #[.int .i64 key, .bool yes, .int .i64 v.key, .int .i64 v.time, .int .i64 v.site, .int .i64 v.val, .int .i64 v.client, .int .i64 v.call, .slice a v.deps.length c] 114).alloc (.cells #[.int .i64 t, .int .i64 s] 24)
  have BS := Blk.new (w.alloc (.cells #[.int .i64 key, .bool yes, .int .i64 v.key, .int .i64 v.time, .int .i64 v.site, .int .i64 v.val, .int .i64 v.client, .int .i64 v.call, .slice a v.deps.length c] 114)) #[.int .i64 t, .int .i64 s] 24
  simp only [World.size_alloc] at BS
  have G0 := below_box2 w (.cells #[.int .i64 key, .bool yes, .int .i64 v.key, .int .i64 v.time, .int .i64 v.site, .int .i64 v.val, .int .i64 v.client, .int .i64 v.call, .slice a v.deps.length c] 114) (.cells #[.int .i64 t, .int .i64 s] 24)
  obtain ⟨p0, p1, p2, p3, p4, p5, p6, p7, p8, pf, pl⟩ := BA.nine
  obtain ⟨q0, q1, qf, ql⟩ := BS.two
  rcases yes with _ | _
  · go_enter Try.func131, Try.ntmps131
    go_wp2
    go_ret
    exact ⟨rfl, G0⟩
  · go_enter Try.func131, Try.ntmps131
    go_wp2_with fail
    refine (stampLess_impl _ _ _ _ _).mono ?_
    rintro e w1 ⟨rfl, hb1⟩
    go_wp2
    go_ret
    exact ⟨rfl, below_after G0 hb1⟩

set_option maxHeartbeats 2000000 in
theorem sameNil_impl (key time site val client call : Int) (a : Option Addr) (c : Nat) (w : World) :
    Calls Try.prog 129 #[.agg #[.int .i64 key, .int .i64 time, .int .i64 site, .int .i64 val, .int .i64 client, .int .i64 call, .slice a 0 c], .agg #[.int .i64 0, .int .i64 0, .int .i64 0, .int .i64 0, .int .i64 0, .int .i64 0, .slice none 0 0]] w fun e w' => e = .returned (.bool (decide (key = 0) && (decide (time = 0) && (decide (site = 0) && (decide (val = 0) && (decide (client = 0) && (decide (call = 0)))))))) ∧ Below w.heap.size w w' := by
  have BA := (Blk.new w #[.int .i64 key, .int .i64 time, .int .i64 site, .int .i64 val, .int .i64 client, .int .i64 call, .slice a 0 c] 27).alloc (.cells #[.int .i64 0, .int .i64 0, .int .i64 0, .int .i64 0, .int .i64 0, .int .i64 0, .slice none 0 0] 27)
  have BS := Blk.new (w.alloc (.cells #[.int .i64 key, .int .i64 time, .int .i64 site, .int .i64 val, .int .i64 client, .int .i64 call, .slice a 0 c] 27)) #[.int .i64 0, .int .i64 0, .int .i64 0, .int .i64 0, .int .i64 0, .int .i64 0, .slice none 0 0] 27
  simp only [World.size_alloc] at BS
  have G0 := below_box2 w (.cells #[.int .i64 key, .int .i64 time, .int .i64 site, .int .i64 val, .int .i64 client, .int .i64 call, .slice a 0 c] 27) (.cells #[.int .i64 0, .int .i64 0, .int .i64 0, .int .i64 0, .int .i64 0, .int .i64 0, .slice none 0 0] 27)
  obtain ⟨p0, p1, p2, p3, p4, p5, p6, pf, pl⟩ := BA.seven
  obtain ⟨q0, q1, q2, q3, q4, q5, q6, qf, ql⟩ := BS.seven
  by_cases h0 : key = 0
  rotate_left
  · have h0' : (key == 0) = false := by simpa using h0
    have h0n : (key != 0) = true := by simpa using h0
    have HR : Hid ((decide (key = 0) && (decide (time = 0) && (decide (site = 0) && (decide (val = 0) && (decide (client = 0) && (decide (call = 0))))))) = false) := by show _ = _; simp [h0]
    clear h0 
    go_enter Try.func129, Try.ntmps129
    go_wp2
    go_ret
    exact ⟨by rw [HR.out]; rfl, G0⟩
  have h0' : (key == 0) = true := by simpa using h0
  have h0n : (key != 0) = false := by simp [h0]
  by_cases h1 : time = 0
  rotate_left
  · have h1' : (time == 0) = false := by simpa using h1
    have h1n : (time != 0) = true := by simpa using h1
    have HR : Hid ((decide (key = 0) && (decide (time = 0) && (decide (site = 0) && (decide (val = 0) && (decide (client = 0) && (decide (call = 0))))))) = false) := by show _ = _; simp [h1]
    clear h1 h0
    go_enter Try.func129, Try.ntmps129
    go_wp2
    go_ret
    exact ⟨by rw [HR.out]; rfl, G0⟩
  have h1' : (time == 0) = true := by simpa using h1
  have h1n : (time != 0) = false := by simp [h1]
  by_cases h2 : site = 0
  rotate_left
  · have h2' : (site == 0) = false := by simpa using h2
    have h2n : (site != 0) = true := by simpa using h2
    have HR : Hid ((decide (key = 0) && (decide (time = 0) && (decide (site = 0) && (decide (val = 0) && (decide (client = 0) && (decide (call = 0))))))) = false) := by show _ = _; simp [h2]
    clear h2 h0 h1
    go_enter Try.func129, Try.ntmps129
    go_wp2
    go_ret
    exact ⟨by rw [HR.out]; rfl, G0⟩
  have h2' : (site == 0) = true := by simpa using h2
  have h2n : (site != 0) = false := by simp [h2]
  by_cases h3 : val = 0
  rotate_left
  · have h3' : (val == 0) = false := by simpa using h3
    have h3n : (val != 0) = true := by simpa using h3
    have HR : Hid ((decide (key = 0) && (decide (time = 0) && (decide (site = 0) && (decide (val = 0) && (decide (client = 0) && (decide (call = 0))))))) = false) := by show _ = _; simp [h3]
    clear h3 h0 h1 h2
    go_enter Try.func129, Try.ntmps129
    go_wp2
    go_ret
    exact ⟨by rw [HR.out]; rfl, G0⟩
  have h3' : (val == 0) = true := by simpa using h3
  have h3n : (val != 0) = false := by simp [h3]
  by_cases h4 : client = 0
  rotate_left
  · have h4' : (client == 0) = false := by simpa using h4
    have h4n : (client != 0) = true := by simpa using h4
    have HR : Hid ((decide (key = 0) && (decide (time = 0) && (decide (site = 0) && (decide (val = 0) && (decide (client = 0) && (decide (call = 0))))))) = false) := by show _ = _; simp [h4]
    clear h4 h0 h1 h2 h3
    go_enter Try.func129, Try.ntmps129
    go_wp2
    go_ret
    exact ⟨by rw [HR.out]; rfl, G0⟩
  have h4' : (client == 0) = true := by simpa using h4
  have h4n : (client != 0) = false := by simp [h4]
  by_cases h5 : call = 0
  rotate_left
  · have h5' : (call == 0) = false := by simpa using h5
    have h5n : (call != 0) = true := by simpa using h5
    have HR : Hid ((decide (key = 0) && (decide (time = 0) && (decide (site = 0) && (decide (val = 0) && (decide (client = 0) && (decide (call = 0))))))) = false) := by show _ = _; simp [h5]
    clear h5 h0 h1 h2 h3 h4
    go_enter Try.func129, Try.ntmps129
    go_wp2
    go_ret
    exact ⟨by rw [HR.out]; rfl, G0⟩
  have h5' : (call == 0) = true := by simpa using h5
  have h5n : (call != 0) = false := by simp [h5]
  have HR : Hid ((decide (key = 0) && (decide (time = 0) && (decide (site = 0) && (decide (val = 0) && (decide (client = 0) && (decide (call = 0))))))) = true) := by show _ = _; simp [h0, h1, h2, h3, h4, h5]
  clear h0 h1 h2 h3 h4 h5
  go_enter Try.func129, Try.ntmps129
  go_wp2
  go_loopw [52] (fun i wr => i = .int .i64 0 ∧ Below w.heap.size w wr) (fun _ _ => 0)
  case atStart => exact ⟨rfl, G0⟩
  case round =>
    obtain ⟨rfl, hBw⟩ := hrel
    go_wp2
    go_ret
    exact ⟨by rw [HR.out]; rfl, hBw⟩
set_option maxHeartbeats 2000000 in
theorem sameFull_impl (v : Vp) (a : Option Addr) (c : Nat) (w : World) (h6 : ¬ v.deps.length = 0) :
    Calls Try.prog 129 #[.agg #[.int .i64 v.key, .int .i64 v.time, .int .i64 v.site, .int .i64 v.val, .int .i64 v.client, .int .i64 v.call, .slice a v.deps.length c], .agg #[.int .i64 0, .int .i64 0, .int .i64 0, .int .i64 0, .int .i64 0, .int .i64 0, .slice none 0 0]] w fun e w' => e = .returned (.bool (zeroB v)) ∧ Below w.heap.size w w' := by
  have BA := (Blk.new w #[.int .i64 v.key, .int .i64 v.time, .int .i64 v.site, .int .i64 v.val, .int .i64 v.client, .int .i64 v.call, .slice a v.deps.length c] 27).alloc (.cells #[.int .i64 0, .int .i64 0, .int .i64 0, .int .i64 0, .int .i64 0, .int .i64 0, .slice none 0 0] 27)
  have BS := Blk.new (w.alloc (.cells #[.int .i64 v.key, .int .i64 v.time, .int .i64 v.site, .int .i64 v.val, .int .i64 v.client, .int .i64 v.call, .slice a v.deps.length c] 27)) #[.int .i64 0, .int .i64 0, .int .i64 0, .int .i64 0, .int .i64 0, .int .i64 0, .slice none 0 0] 27
  simp only [World.size_alloc] at BS
  have G0 := below_box2 w (.cells #[.int .i64 v.key, .int .i64 v.time, .int .i64 v.site, .int .i64 v.val, .int .i64 v.client, .int .i64 v.call, .slice a v.deps.length c] 27) (.cells #[.int .i64 0, .int .i64 0, .int .i64 0, .int .i64 0, .int .i64 0, .int .i64 0, .slice none 0 0] 27)
  obtain ⟨p0, p1, p2, p3, p4, p5, p6, pf, pl⟩ := BA.seven
  obtain ⟨q0, q1, q2, q3, q4, q5, q6, qf, ql⟩ := BS.seven
  by_cases h0 : v.key = 0
  rotate_left
  · have h0' : (v.key == 0) = false := by simpa using h0
    have h0n : (v.key != 0) = true := by simpa using h0
    have HR : Hid (zeroB v = false) := by show _ = _; simp [zeroB, h0]
    clear h0 
    go_enter Try.func129, Try.ntmps129
    go_wp2
    go_ret
    exact ⟨by rw [HR.out]; rfl, G0⟩
  have h0' : (v.key == 0) = true := by simpa using h0
  have h0n : (v.key != 0) = false := by simp [h0]
  by_cases h1 : v.time = 0
  rotate_left
  · have h1' : (v.time == 0) = false := by simpa using h1
    have h1n : (v.time != 0) = true := by simpa using h1
    have HR : Hid (zeroB v = false) := by show _ = _; simp [zeroB, h1]
    clear h1 h0
    go_enter Try.func129, Try.ntmps129
    go_wp2
    go_ret
    exact ⟨by rw [HR.out]; rfl, G0⟩
  have h1' : (v.time == 0) = true := by simpa using h1
  have h1n : (v.time != 0) = false := by simp [h1]
  by_cases h2 : v.site = 0
  rotate_left
  · have h2' : (v.site == 0) = false := by simpa using h2
    have h2n : (v.site != 0) = true := by simpa using h2
    have HR : Hid (zeroB v = false) := by show _ = _; simp [zeroB, h2]
    clear h2 h0 h1
    go_enter Try.func129, Try.ntmps129
    go_wp2
    go_ret
    exact ⟨by rw [HR.out]; rfl, G0⟩
  have h2' : (v.site == 0) = true := by simpa using h2
  have h2n : (v.site != 0) = false := by simp [h2]
  by_cases h3 : v.val = 0
  rotate_left
  · have h3' : (v.val == 0) = false := by simpa using h3
    have h3n : (v.val != 0) = true := by simpa using h3
    have HR : Hid (zeroB v = false) := by show _ = _; simp [zeroB, h3]
    clear h3 h0 h1 h2
    go_enter Try.func129, Try.ntmps129
    go_wp2
    go_ret
    exact ⟨by rw [HR.out]; rfl, G0⟩
  have h3' : (v.val == 0) = true := by simpa using h3
  have h3n : (v.val != 0) = false := by simp [h3]
  by_cases h4 : v.client = 0
  rotate_left
  · have h4' : (v.client == 0) = false := by simpa using h4
    have h4n : (v.client != 0) = true := by simpa using h4
    have HR : Hid (zeroB v = false) := by show _ = _; simp [zeroB, h4]
    clear h4 h0 h1 h2 h3
    go_enter Try.func129, Try.ntmps129
    go_wp2
    go_ret
    exact ⟨by rw [HR.out]; rfl, G0⟩
  have h4' : (v.client == 0) = true := by simpa using h4
  have h4n : (v.client != 0) = false := by simp [h4]
  by_cases h5 : v.call = 0
  rotate_left
  · have h5' : (v.call == 0) = false := by simpa using h5
    have h5n : (v.call != 0) = true := by simpa using h5
    have HR : Hid (zeroB v = false) := by show _ = _; simp [zeroB, h5]
    clear h5 h0 h1 h2 h3 h4
    go_enter Try.func129, Try.ntmps129
    go_wp2
    go_ret
    exact ⟨by rw [HR.out]; rfl, G0⟩
  have h5' : (v.call == 0) = true := by simpa using h5
  have h5n : (v.call != 0) = false := by simp [h5]
  have h6n : ((v.deps.length : Int) != 0) = true := by rw [bne_iff_ne]; omega
  have HR : Hid (zeroB v = false) := by show _ = _; simp only [zeroB, decide_eq_false h6, Bool.and_false]
  clear h6 h0 h1 h2 h3 h4 h5
  go_enter Try.func129, Try.ntmps129
  go_wp2
  go_ret
  exact ⟨by rw [HR.out]; rfl, G0⟩
theorem sameZero_impl (v : Vp) (a : Option Addr) (c : Nat) (w : World) :
    Calls Try.prog 129 #[.agg #[.int .i64 v.key, .int .i64 v.time, .int .i64 v.site, .int .i64 v.val, .int .i64 v.client, .int .i64 v.call, .slice a v.deps.length c], .agg #[.int .i64 0, .int .i64 0, .int .i64 0, .int .i64 0, .int .i64 0, .int .i64 0, .slice none 0 0]] w fun e w' => e = .returned (.bool (zeroB v)) ∧ Below w.heap.size w w' := by
  by_cases h6 : v.deps.length = 0
  · have HZ : zeroB v = (decide (v.key = 0) && (decide (v.time = 0) && (decide (v.site = 0) && (decide (v.val = 0) && (decide (v.client = 0) && (decide (v.call = 0))))))) := by simp [zeroB, h6]
    rw [h6, HZ]
    exact sameNil_impl _ _ _ _ _ _ a c w
  · exact sameFull_impl v a c w h6

end Go.Proofs.Ythciikogogkfcaa
