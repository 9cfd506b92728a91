/-
  The contract of package pll's Update.
-/
import Derived.Test.YtbfobodaeimklaaDoorPllE
set_option linter.unusedSimpArgs false
set_option linter.unusedVariables false
namespace Go.Proofs.YtbfobodaeimklaaDoor
open Go.RowKit
/-- An update's answer. -/
def upv (k v e : Int) : Value := .tuple #[act k v, .int .i64 e]
theorem two_cells (w : World) (nq : Nat) (b : Nat) (hb : b < w.heap.size) (w1 : World) (h : Oth b (((w.alloc (.cells #[.int .i64 0, .int .i64 0] 38)).drewN nq).alloc (.cells #[.int .i64 0, .int .i64 0] 38)) w1) :
    (w1.cell? ⟨w.heap.size, 0, none⟩ = some (.int .i64 0) ∧ w1.cell? ⟨w.heap.size, 1, none⟩ = some (.int .i64 0) ∧ w1.cell? ⟨w.heap.size + 1, 0, none⟩ = some (.int .i64 0) ∧ w1.cell? ⟨w.heap.size + 1, 1, none⟩ = some (.int .i64 0)) ∧
    (w1.frozen? ⟨w.heap.size, 0, none⟩ = false ∧ w1.frozen? ⟨w.heap.size, 1, none⟩ = false ∧ w1.frozen? ⟨w.heap.size + 1, 0, none⟩ = false ∧ w1.frozen? ⟨w.heap.size + 1, 1, none⟩ = false) := by
  have ha : (w.alloc (.cells #[.int .i64 0, .int .i64 0] 38)).heap.size = w.heap.size + 1 := by simp
  have hn : ((w.alloc (.cells #[.int .i64 0, .int .i64 0] 38)).drewN nq).heap.size = w.heap.size + 1 := ha
  have hs : (((w.alloc (.cells #[.int .i64 0, .int .i64 0] 38)).drewN nq).alloc (.cells #[.int .i64 0, .int .i64 0] 38)).heap.size = w.heap.size + 2 := (World.size_alloc _ _).trans (by rw [hn])
  have hB : Below (w.heap.size + 1) (w.alloc (.cells #[.int .i64 0, .int .i64 0] 38)) (((w.alloc (.cells #[.int .i64 0, .int .i64 0] 38)).drewN nq).alloc (.cells #[.int .i64 0, .int .i64 0] 38)) := by
    have := Below.of_drewN (w.alloc (.cells #[.int .i64 0, .int .i64 0] 38)) nq
    rw [ha] at this
    exact this.alloc (by omega) _
  refine ⟨⟨?_, ?_, ?_, ?_⟩, ?_, ?_, ?_, ?_⟩
  · refine (h.cell (p := ⟨w.heap.size, 0, none⟩) (by rw [hs]; show w.heap.size < _; omega) (by show w.heap.size ≠ b; omega)).trans ?_
    refine (hB.cell (p := ⟨w.heap.size, 0, none⟩) (by show w.heap.size < _; omega)).trans ?_
    rw [World.cell?_alloc_at _ _ _ _ rfl]; rfl
  · refine (h.cell (p := ⟨w.heap.size, 1, none⟩) (by rw [hs]; show w.heap.size < _; omega) (by show w.heap.size ≠ b; omega)).trans ?_
    refine (hB.cell (p := ⟨w.heap.size, 1, none⟩) (by show w.heap.size < _; omega)).trans ?_
    rw [World.cell?_alloc_at _ _ _ _ rfl]; rfl
  · refine (h.cell (p := ⟨w.heap.size + 1, 0, none⟩) (by rw [hs]; show w.heap.size + 1 < _; omega) (by show w.heap.size + 1 ≠ b; omega)).trans ?_
    rw [World.cell?_alloc_at _ _ _ _ hn.symm]; rfl
  · refine (h.cell (p := ⟨w.heap.size + 1, 1, none⟩) (by rw [hs]; show w.heap.size + 1 < _; omega) (by show w.heap.size + 1 ≠ b; omega)).trans ?_
    rw [World.cell?_alloc_at _ _ _ _ hn.symm]; rfl
  · refine (h.frozen (p := ⟨w.heap.size, 0, none⟩) (by rw [hs]; show w.heap.size < _; omega) (by show w.heap.size ≠ b; omega)).trans ?_
    refine (hB.frozen (p := ⟨w.heap.size, 0, none⟩) (by show w.heap.size < _; omega)).trans ?_
    rw [World.frozen?_alloc_at _ _ _ _ rfl]
  · refine (h.frozen (p := ⟨w.heap.size, 1, none⟩) (by rw [hs]; show w.heap.size < _; omega) (by show w.heap.size ≠ b; omega)).trans ?_
    refine (hB.frozen (p := ⟨w.heap.size, 1, none⟩) (by show w.heap.size < _; omega)).trans ?_
    rw [World.frozen?_alloc_at _ _ _ _ rfl]
  · refine (h.frozen (p := ⟨w.heap.size + 1, 0, none⟩) (by rw [hs]; show w.heap.size + 1 < _; omega) (by show w.heap.size + 1 ≠ b; omega)).trans ?_
    rw [World.frozen?_alloc_at _ _ _ _ hn.symm]
  · refine (h.frozen (p := ⟨w.heap.size + 1, 1, none⟩) (by rw [hs]; show w.heap.size + 1 < _; omega) (by show w.heap.size + 1 ≠ b; omega)).trans ?_
    rw [World.frozen?_alloc_at _ _ _ _ hn.symm]
set_option maxHeartbeats 2000000 in
theorem upd_range (b : Nat) (s : LS) (t o p : Int) (w : World) (h : Lp w b s) (hr : ((inB t 0 1073741824 && inB o (-1125899906842624) 1125899906842624) && inB p s.mn s.mx) = false) : Calls Tryd.prog 18 #[.pointer (some ⟨b, 0, none⟩), .int .i64 t, .int .i64 o, .int .i64 p] w (LPost b s (upv 0 0 3) w) := by
  have hmf : ∀ (fn : Fn) (first cap : Array Value) (w : World), (Instr.makeFunc fn first cap).run Tryd.prog w = .ok (.func fn first cap) w := fun _ _ _ _ => rfl
  have H := Kp.mk h
  obtain ⟨lt, c0, c1, c2, c3, c4, c5, c6, c7, c8, c9, c10, c11, f5, f6, f7, f8, f9, f10, f11⟩ := h
  have i1 := fun w => in_any t 0 1073741824 w
  have i2 := fun w => in_any o (-1125899906842624) 1125899906842624 w
  have i3 := fun w => in_any p s.mn s.mx w
  generalize inB t 0 1073741824 = b1 at *
  generalize inB o (-1125899906842624) 1125899906842624 = b2 at *
  generalize inB p s.mn s.mx = b3 at *
  clear c2 c3 c4 c5 c6 c7 c8 c9 c10 c11 f5 f6 f7 f8 f9 f10 f11
  cases b1 <;> cases b2 <;> cases b3 <;> simp at hr
  all_goals clear hr
  all_goals
    go_enter Tryd.func18, Tryd.ntmps18
    go_wp2_with fail
    go_quiet ((go_at_call 26; first | with_reducible exact qs (i1 _) | with_reducible exact qs (i2 _) | with_reducible exact qs (i3 _)))
    rename_i nq
    go_wp2
    refine bodyPost_ret (v := upv 0 0 3) (by simp [results, Tryd.results18, go_sem, upv, act]) rfl ⟨rfl, ?_, ?_⟩
    · exact (((H.out.alloc _).drewN nq).setOther (by show b ≠ w.heap.size; omega) _).setOther (by show b ≠ w.heap.size; omega) _
    · exact ((((Oth.refl _ _).alloc _).drewN nq).setNew (by exact Nat.le_refl _) _).setNew (by exact Nat.le_refl _) _
set_option maxHeartbeats 2000000 in
theorem upd_order (b : Nat) (s : LS) (t o p : Int) (w : World) (h : Lp w b s) (t1 : 0 ≤ t) (t2 : t ≤ 1073741824) (o1 : -1125899906842624 ≤ o) (o2 : o ≤ 1125899906842624) (p1 : s.mn ≤ p) (p2 : p ≤ s.mx) (hu : s.up = true) (hl : t ≤ s.la) : Calls Tryd.prog 18 #[.pointer (some ⟨b, 0, none⟩), .int .i64 t, .int .i64 o, .int .i64 p] w (LPost b s (upv 0 0 12) w) := by
  have hmf : ∀ (fn : Fn) (first cap : Array Value) (w : World), (Instr.makeFunc fn first cap).run Tryd.prog w = .ok (.func fn first cap) w := fun _ _ _ _ => rfl
  have H := Kp.mk h
  obtain ⟨lt, c0, c1, c2, c3, c4, c5, c6, c7, c8, c9, c10, c11, f5, f6, f7, f8, f9, f10, f11⟩ := h
  have i1 := fun w => in_any t 0 1073741824 w
  have i2 := fun w => in_any o (-1125899906842624) 1125899906842624 w
  have i3 := fun w => in_any p s.mn s.mx w
  rw [inB_iff.2 ⟨t1, t2⟩] at i1
  rw [inB_iff.2 ⟨o1, o2⟩] at i2
  rw [inB_iff.2 ⟨p1, p2⟩] at i3
  rw [hu] at c10
  have l1 : decide (t ≤ s.la) = true := by simpa using hl
  clear t1 t2 o1 o2 p1 p2 hl
  go_enter Tryd.func18, Tryd.ntmps18
  go_wp2_with fail
  go_quiet ((go_at_call 26; first | with_reducible exact qs (i1 _) | with_reducible exact qs (i2 _) | with_reducible exact qs (i3 _)))
  rename_i nq
  go_wp2_with fail
  refine bodyPost_ret (v := upv 0 0 12) (by simp [results, Tryd.results18, go_sem, upv, act]) rfl ⟨rfl, ?_, ?_⟩
  · exact (((H.out.alloc _).drewN nq).setOther (by show b ≠ w.heap.size; omega) _).setOther (by show b ≠ w.heap.size; omega) _
  · exact ((((Oth.refl _ _).alloc _).drewN nq).setNew (by exact Nat.le_refl _) _).setNew (by exact Nat.le_refl _) _
set_option maxHeartbeats 2000000 in
theorem upd_skip (b : Nat) (s : LS) (t o p : Int) (w : World) (h : Lp w b s) (t1 : 0 ≤ t) (t2 : t ≤ 1073741824) (o1 : -1125899906842624 ≤ o) (o2 : o ≤ 1125899906842624) (p1 : s.mn ≤ p) (p2 : p ≤ s.mx) (hu : s.up = true) (hl : s.la < t) (hl0 : 0 ≤ s.la) (hs : s.st = 1) (hm : t - s.la < s.so) : Calls Tryd.prog 18 #[.pointer (some ⟨b, 0, none⟩), .int .i64 t, .int .i64 o, .int .i64 p] w (LPost b s (upv 0 0 0) w) := by
  have hmf : ∀ (fn : Fn) (first cap : Array Value) (w : World), (Instr.makeFunc fn first cap).run Tryd.prog w = .ok (.func fn first cap) w := fun _ _ _ _ => rfl
  have H := Kp.mk h
  obtain ⟨lt, c0, c1, c2, c3, c4, c5, c6, c7, c8, c9, c10, c11, f5, f6, f7, f8, f9, f10, f11⟩ := h
  have i1 := fun w => in_any t 0 1073741824 w
  have i2 := fun w => in_any o (-1125899906842624) 1125899906842624 w
  have i3 := fun w => in_any p s.mn s.mx w
  rw [inB_iff.2 ⟨t1, t2⟩] at i1
  rw [inB_iff.2 ⟨o1, o2⟩] at i2
  rw [inB_iff.2 ⟨p1, p2⟩] at i3
  rw [hu] at c10
  have l1 : decide (t ≤ s.la) = false := by simp; omega
  have l2 : (s.st == 1) = true := by simpa using hs
  have l3 : decide (t - s.la < s.so) = true := by simpa using hm
  have l4 : wrap64 (t - s.la) = t - s.la := by unfold wrap64; omega
  clear t1 t2 o1 o2 p1 p2 hl hs hm hl0
  go_enter Tryd.func18, Tryd.ntmps18
  go_wp2_with fail
  go_quiet ((go_at_call 26; first | with_reducible exact qs (i1 _) | with_reducible exact qs (i2 _) | with_reducible exact qs (i3 _)))
  rename_i nq
  go_wp2_with fail
  refine bodyPost_ret (v := upv 0 0 0) (by simp [results, Tryd.results18, go_sem, upv, act]) rfl ⟨rfl, ?_, ?_⟩
  · exact (((H.out.alloc _).drewN nq).setOther (by show b ≠ w.heap.size; omega) _).setOther (by show b ≠ w.heap.size; omega) _
  · exact ((((Oth.refl _ _).alloc _).drewN nq).setNew (by exact Nat.le_refl _) _).setNew (by exact Nat.le_refl _) _

set_option maxHeartbeats 2000000 in
theorem upd_new_large (b : Nat) (s : LS) (t o p : Int) (w : World) (h : Lp w b s) (t1 : 0 ≤ t) (t2 : t ≤ 1073741824) (o1 : -1125899906842624 ≤ o) (o2 : o ≤ 1125899906842624) (p1 : s.mn ≤ p) (p2 : p ≤ s.mx) (hu : s.up = false) (hs : s.st = 0) (ok : s.Ok) (hz : s.sa ≤ max o (-o)) : Calls Tryd.prog 18 #[.pointer (some ⟨b, 0, none⟩), .int .i64 t, .int .i64 o, .int .i64 p] w (LPost b { (largeF s t o 0).1 with la := t, po := p, up := true } (upv (largeF s t o 0).2.1 (largeF s t o 0).2.2 0) w) := by
  have hmf : ∀ (fn : Fn) (first cap : Array Value) (w : World), (Instr.makeFunc fn first cap).run Tryd.prog w = .ok (.func fn first cap) w := fun _ _ _ _ => rfl
  have H := Kp.mk h
  obtain ⟨lt, c0, c1, c2, c3, c4, c5, c6, c7, c8, c9, c10, c11, f5, f6, f7, f8, f9, f10, f11⟩ := h
  have i1 := fun w => in_any t 0 1073741824 w
  have i2 := fun w => in_any o (-1125899906842624) 1125899906842624 w
  have i3 := fun w => in_any p s.mn s.mx w
  rw [inB_iff.2 ⟨t1, t2⟩] at i1
  rw [inB_iff.2 ⟨o1, o2⟩] at i2
  rw [inB_iff.2 ⟨p1, p2⟩] at i3
  rw [hu] at c10
  rw [hs] at c5
  have l5 : wrap64 (-o) = -o := by unfold wrap64; omega
  have l6 : decide (s.sa ≤ max o (-o)) = true := by simp; omega
  have lg := fun (w1 : World) (h1 : Lp w1 b s) => large_any b s t o 0 w1 h1 ok (by intro e; omega) (by have := ok.sp2; have := ok.new hu; omega) t2 o1 o2
  generalize largeF s t o 0 = r at *
  clear t1 t2 o1 o2 p1 p2 hz ok hs
  go_enter Tryd.func18, Tryd.ntmps18
  go_wp2_with fail
  go_quiet ((go_at_call 26; first | with_reducible exact qs (i1 _) | with_reducible exact qs (i2 _) | with_reducible exact qs (i3 _)))
  rename_i nq
  go_wp2_with fail
  obtain ⟨s', k, v⟩ := r
  refine (lg _ (((H.out.alloc _).drewN nq).alloc _)).mono ?_
  rintro x w1 ⟨rfl, hl, ho⟩
  have HL := Kp.mk hl
  have HO : Kp (Oth b w w1) := ⟨((((Oth.refl _ _).alloc _).drewN nq).alloc _).trans ho⟩
  obtain ⟨⟨g0, g1, g2, g3⟩, g4, g5, g6, g7⟩ := two_cells w nq b lt w1 ho
  have hb : w.heap.size ≠ b := by omega
  have hb' : b ≠ w.heap.size := by omega
  have hc : w.heap.size + 1 ≠ b := by omega
  have hc' : b ≠ w.heap.size + 1 := by omega
  clear c0 c1 c2 c3 c4 c5 c6 c7 c8 c9 c10 c11 f5 f6 f7 f8 f9 f10 f11
  obtain ⟨lt1, c0, c1, c2, c3, c4, c5, c6, c7, c8, c9, c10, c11, f5, f6, f7, f8, f9, f10, f11⟩ := hl
  clear ho lg lt
  unfold act
  go_wp2_with fail
  refine bodyPost_ret (v := upv k v 0) (by simp [results, Tryd.results18, go_sem, upv, act, g0, g1, g2, g3, hb, hb', hc, hc']) rfl ⟨rfl, ?_, ?_⟩
  · exact (((((((HL.out.setOther hc' _).setOther hc' _).set8 _).set9 _).set10 _).setOther hb' _).setOther hb' _)
  · exact (((((((HO.out.setNew (by exact Nat.le_succ _) _).setNew (by exact Nat.le_succ _) _).setCell (by rfl) _).setCell (by rfl) _).setCell (by rfl) _).setNew (by exact Nat.le_refl _) _).setNew (by exact Nat.le_refl _) _)
set_option maxHeartbeats 2000000 in
theorem upd_new_small (b : Nat) (s : LS) (t o p : Int) (w : World) (h : Lp w b s) (t1 : 0 ≤ t) (t2 : t ≤ 1073741824) (o1 : -1125899906842624 ≤ o) (o2 : o ≤ 1125899906842624) (p1 : s.mn ≤ p) (p2 : p ≤ s.mx) (hu : s.up = false) (hs : s.st = 0) (ok : s.Ok) (hz : max o (-o) < s.sa) : Calls Tryd.prog 18 #[.pointer (some ⟨b, 0, none⟩), .int .i64 t, .int .i64 o, .int .i64 p] w (LPost b { smallF s o 0 p with la := t, po := p, up := true } (upv 1 (smallF s o 0 p).fr 0) w) := by
  have hmf : ∀ (fn : Fn) (first cap : Array Value) (w : World), (Instr.makeFunc fn first cap).run Tryd.prog w = .ok (.func fn first cap) w := fun _ _ _ _ => rfl
  have H := Kp.mk h
  obtain ⟨lt, c0, c1, c2, c3, c4, c5, c6, c7, c8, c9, c10, c11, f5, f6, f7, f8, f9, f10, f11⟩ := h
  have i1 := fun w => in_any t 0 1073741824 w
  have i2 := fun w => in_any o (-1125899906842624) 1125899906842624 w
  have i3 := fun w => in_any p s.mn s.mx w
  rw [inB_iff.2 ⟨t1, t2⟩] at i1
  rw [inB_iff.2 ⟨o1, o2⟩] at i2
  rw [inB_iff.2 ⟨p1, p2⟩] at i3
  rw [hu] at c10
  rw [hs] at c5
  have l5 : wrap64 (-o) = -o := by unfold wrap64; omega
  have l6 : decide (s.sa ≤ max o (-o)) = false := by simp; omega
  have lg := fun (w1 : World) (h1 : Lp w1 b s) => small_any b s o 0 p w1 h1 ok (by intro e; omega) (by omega) (by have := ok.mn1; omega) (by have := ok.mx2; omega) o1 o2
  generalize smallF s o 0 p = r at *
  clear t1 t2 o1 o2 p1 p2 hz ok hs
  go_enter Tryd.func18, Tryd.ntmps18
  go_wp2_with fail
  go_quiet ((go_at_call 26; first | with_reducible exact qs (i1 _) | with_reducible exact qs (i2 _) | with_reducible exact qs (i3 _)))
  rename_i nq
  go_wp2_with fail
  refine (lg _ (((H.out.alloc _).drewN nq).alloc _)).mono ?_
  rintro x w1 ⟨rfl, hl, ho⟩
  have HL := Kp.mk hl
  have HO : Kp (Oth b w w1) := ⟨((((Oth.refl _ _).alloc _).drewN nq).alloc _).trans ho⟩
  obtain ⟨⟨g0, g1, g2, g3⟩, g4, g5, g6, g7⟩ := two_cells w nq b lt w1 ho
  have hb : w.heap.size ≠ b := by omega
  have hb' : b ≠ w.heap.size := by omega
  have hc : w.heap.size + 1 ≠ b := by omega
  have hc' : b ≠ w.heap.size + 1 := by omega
  clear c0 c1 c2 c3 c4 c5 c6 c7 c8 c9 c10 c11 f5 f6 f7 f8 f9 f10 f11
  obtain ⟨lt1, c0, c1, c2, c3, c4, c5, c6, c7, c8, c9, c10, c11, f5, f6, f7, f8, f9, f10, f11⟩ := hl
  clear ho lg lt
  go_wp2_with fail
  refine bodyPost_ret (v := upv 1 r.fr 0) (by simp [results, Tryd.results18, go_sem, upv, act, g0, g1, g2, g3, hb, hb', hc, hc']) rfl ⟨rfl, ?_, ?_⟩
  · exact (((((((HL.out.setOther hc' _).setOther hc' _).set8 _).set9 _).set10 _).setOther hb' _).setOther hb' _)
  · exact (((((((HO.out.setNew (by exact Nat.le_succ _) _).setNew (by exact Nat.le_succ _) _).setCell (by rfl) _).setCell (by rfl) _).setCell (by rfl) _).setNew (by exact Nat.le_refl _) _).setNew (by exact Nat.le_refl _) _)
set_option maxHeartbeats 2000000 in
theorem upd_freq_large (b : Nat) (s : LS) (t o p : Int) (w : World) (h : Lp w b s) (t1 : 0 ≤ t) (t2 : t ≤ 1073741824) (o1 : -1125899906842624 ≤ o) (o2 : o ≤ 1125899906842624) (p1 : s.mn ≤ p) (p2 : p ≤ s.mx) (hu : s.up = true) (hl : s.la < t) (hl0 : 0 ≤ s.la) (hs : s.st = 1) (hm : s.so ≤ t - s.la) (ok : s.Ok) (hz : s.sa ≤ max o (-o)) : Calls Tryd.prog 18 #[.pointer (some ⟨b, 0, none⟩), .int .i64 t, .int .i64 o, .int .i64 p] w (LPost b { (largeF s t o (t - s.la)).1 with la := t, po := p, up := true } (upv (largeF s t o (t - s.la)).2.1 (largeF s t o (t - s.la)).2.2 0) w) := by
  have hmf : ∀ (fn : Fn) (first cap : Array Value) (w : World), (Instr.makeFunc fn first cap).run Tryd.prog w = .ok (.func fn first cap) w := fun _ _ _ _ => rfl
  have H := Kp.mk h
  obtain ⟨lt, c0, c1, c2, c3, c4, c5, c6, c7, c8, c9, c10, c11, f5, f6, f7, f8, f9, f10, f11⟩ := h
  have i1 := fun w => in_any t 0 1073741824 w
  have i2 := fun w => in_any o (-1125899906842624) 1125899906842624 w
  have i3 := fun w => in_any p s.mn s.mx w
  rw [inB_iff.2 ⟨t1, t2⟩] at i1
  rw [inB_iff.2 ⟨o1, o2⟩] at i2
  rw [inB_iff.2 ⟨p1, p2⟩] at i3
  rw [hu] at c10
  have l1 : decide (t ≤ s.la) = false := by simp; omega
  have l4 : wrap64 (t - s.la) = t - s.la := by unfold wrap64; omega
  have l2 : (s.st == 1) = true := by simpa using hs
  have l3 : decide (t - s.la < s.so) = false := by simp; omega
  have l5 : wrap64 (-o) = -o := by unfold wrap64; omega
  have l6 : decide (s.sa ≤ max o (-o)) = true := by simp; omega
  have lg := fun (w1 : World) (h1 : Lp w1 b s) => large_any b s t o (t - s.la) w1 h1 ok (by intro e; omega) (by have := ok.sp2; omega) t2 o1 o2
  generalize largeF s t o (t - s.la) = r at *
  clear t1 t2 o1 o2 p1 p2 hz ok hl hl0 hs hm
  go_enter Tryd.func18, Tryd.ntmps18
  go_wp2_with fail
  go_quiet ((go_at_call 26; first | with_reducible exact qs (i1 _) | with_reducible exact qs (i2 _) | with_reducible exact qs (i3 _)))
  rename_i nq
  go_wp2_with fail
  simp only [l4]
  obtain ⟨s', k, v⟩ := r
  refine (lg _ (((H.out.alloc _).drewN nq).alloc _)).mono ?_
  rintro x w1 ⟨rfl, hl, ho⟩
  have HL := Kp.mk hl
  have HO : Kp (Oth b w w1) := ⟨((((Oth.refl _ _).alloc _).drewN nq).alloc _).trans ho⟩
  obtain ⟨⟨g0, g1, g2, g3⟩, g4, g5, g6, g7⟩ := two_cells w nq b lt w1 ho
  have hb : w.heap.size ≠ b := by omega
  have hb' : b ≠ w.heap.size := by omega
  have hc : w.heap.size + 1 ≠ b := by omega
  have hc' : b ≠ w.heap.size + 1 := by omega
  clear c0 c1 c2 c3 c4 c5 c6 c7 c8 c9 c10 c11 f5 f6 f7 f8 f9 f10 f11
  obtain ⟨lt1, c0, c1, c2, c3, c4, c5, c6, c7, c8, c9, c10, c11, f5, f6, f7, f8, f9, f10, f11⟩ := hl
  clear ho lg lt
  unfold act
  go_wp2_with fail
  refine bodyPost_ret (v := upv k v 0) (by simp [results, Tryd.results18, go_sem, upv, act, g0, g1, g2, g3, hb, hb', hc, hc']) rfl ⟨rfl, ?_, ?_⟩
  · exact (((((((HL.out.setOther hc' _).setOther hc' _).set8 _).set9 _).set10 _).setOther hb' _).setOther hb' _)
  · exact (((((((HO.out.setNew (by exact Nat.le_succ _) _).setNew (by exact Nat.le_succ _) _).setCell (by rfl) _).setCell (by rfl) _).setCell (by rfl) _).setNew (by exact Nat.le_refl _) _).setNew (by exact Nat.le_refl _) _)
set_option maxHeartbeats 2000000 in
theorem upd_freq_small (b : Nat) (s : LS) (t o p : Int) (w : World) (h : Lp w b s) (t1 : 0 ≤ t) (t2 : t ≤ 1073741824) (o1 : -1125899906842624 ≤ o) (o2 : o ≤ 1125899906842624) (p1 : s.mn ≤ p) (p2 : p ≤ s.mx) (hu : s.up = true) (hl : s.la < t) (hl0 : 0 ≤ s.la) (hs : s.st = 1) (hm : s.so ≤ t - s.la) (ok : s.Ok) (hz : max o (-o) < s.sa) : Calls Tryd.prog 18 #[.pointer (some ⟨b, 0, none⟩), .int .i64 t, .int .i64 o, .int .i64 p] w (LPost b { smallF s o (t - s.la) p with la := t, po := p, up := true } (upv 1 (smallF s o (t - s.la) p).fr 0) w) := by
  have hmf : ∀ (fn : Fn) (first cap : Array Value) (w : World), (Instr.makeFunc fn first cap).run Tryd.prog w = .ok (.func fn first cap) w := fun _ _ _ _ => rfl
  have H := Kp.mk h
  obtain ⟨lt, c0, c1, c2, c3, c4, c5, c6, c7, c8, c9, c10, c11, f5, f6, f7, f8, f9, f10, f11⟩ := h
  have i1 := fun w => in_any t 0 1073741824 w
  have i2 := fun w => in_any o (-1125899906842624) 1125899906842624 w
  have i3 := fun w => in_any p s.mn s.mx w
  rw [inB_iff.2 ⟨t1, t2⟩] at i1
  rw [inB_iff.2 ⟨o1, o2⟩] at i2
  rw [inB_iff.2 ⟨p1, p2⟩] at i3
  rw [hu] at c10
  have l1 : decide (t ≤ s.la) = false := by simp; omega
  have l4 : wrap64 (t - s.la) = t - s.la := by unfold wrap64; omega
  have l2 : (s.st == 1) = true := by simpa using hs
  have l3 : decide (t - s.la < s.so) = false := by simp; omega
  have l5 : wrap64 (-o) = -o := by unfold wrap64; omega
  have l6 : decide (s.sa ≤ max o (-o)) = false := by simp; omega
  have lg := fun (w1 : World) (h1 : Lp w1 b s) => small_any b s o (t - s.la) p w1 h1 ok (by intro e; omega) (by omega) (by have := ok.mn1; omega) (by have := ok.mx2; omega) o1 o2
  generalize smallF s o (t - s.la) p = r at *
  clear t1 t2 o1 o2 p1 p2 hz ok hl hl0 hs hm
  go_enter Tryd.func18, Tryd.ntmps18
  go_wp2_with fail
  go_quiet ((go_at_call 26; first | with_reducible exact qs (i1 _) | with_reducible exact qs (i2 _) | with_reducible exact qs (i3 _)))
  rename_i nq
  go_wp2_with fail
  simp only [l4]
  refine (lg _ (((H.out.alloc _).drewN nq).alloc _)).mono ?_
  rintro x w1 ⟨rfl, hl, ho⟩
  have HL := Kp.mk hl
  have HO : Kp (Oth b w w1) := ⟨((((Oth.refl _ _).alloc _).drewN nq).alloc _).trans ho⟩
  obtain ⟨⟨g0, g1, g2, g3⟩, g4, g5, g6, g7⟩ := two_cells w nq b lt w1 ho
  have hb : w.heap.size ≠ b := by omega
  have hb' : b ≠ w.heap.size := by omega
  have hc : w.heap.size + 1 ≠ b := by omega
  have hc' : b ≠ w.heap.size + 1 := by omega
  clear c0 c1 c2 c3 c4 c5 c6 c7 c8 c9 c10 c11 f5 f6 f7 f8 f9 f10 f11
  obtain ⟨lt1, c0, c1, c2, c3, c4, c5, c6, c7, c8, c9, c10, c11, f5, f6, f7, f8, f9, f10, f11⟩ := hl
  clear ho lg lt
  go_wp2_with fail
  refine bodyPost_ret (v := upv 1 r.fr 0) (by simp [results, Tryd.results18, go_sem, upv, act, g0, g1, g2, g3, hb, hb', hc, hc']) rfl ⟨rfl, ?_, ?_⟩
  · exact (((((((HL.out.setOther hc' _).setOther hc' _).set8 _).set9 _).set10 _).setOther hb' _).setOther hb' _)
  · exact (((((((HO.out.setNew (by exact Nat.le_succ _) _).setNew (by exact Nat.le_succ _) _).setCell (by rfl) _).setCell (by rfl) _).setCell (by rfl) _).setNew (by exact Nat.le_refl _) _).setNew (by exact Nat.le_refl _) _)
set_option maxHeartbeats 2000000 in
theorem upd_old_large (b : Nat) (s : LS) (t o p : Int) (w : World) (h : Lp w b s) (t1 : 0 ≤ t) (t2 : t ≤ 1073741824) (o1 : -1125899906842624 ≤ o) (o2 : o ≤ 1125899906842624) (p1 : s.mn ≤ p) (p2 : p ≤ s.mx) (hu : s.up = true) (hl : s.la < t) (hl0 : 0 ≤ s.la) (hs : s.st ≠ 1) (ok : s.Ok) (hz : s.sa ≤ max o (-o)) : Calls Tryd.prog 18 #[.pointer (some ⟨b, 0, none⟩), .int .i64 t, .int .i64 o, .int .i64 p] w (LPost b { (largeF s t o (t - s.la)).1 with la := t, po := p, up := true } (upv (largeF s t o (t - s.la)).2.1 (largeF s t o (t - s.la)).2.2 0) w) := by
  have hmf : ∀ (fn : Fn) (first cap : Array Value) (w : World), (Instr.makeFunc fn first cap).run Tryd.prog w = .ok (.func fn first cap) w := fun _ _ _ _ => rfl
  have H := Kp.mk h
  obtain ⟨lt, c0, c1, c2, c3, c4, c5, c6, c7, c8, c9, c10, c11, f5, f6, f7, f8, f9, f10, f11⟩ := h
  have i1 := fun w => in_any t 0 1073741824 w
  have i2 := fun w => in_any o (-1125899906842624) 1125899906842624 w
  have i3 := fun w => in_any p s.mn s.mx w
  rw [inB_iff.2 ⟨t1, t2⟩] at i1
  rw [inB_iff.2 ⟨o1, o2⟩] at i2
  rw [inB_iff.2 ⟨p1, p2⟩] at i3
  rw [hu] at c10
  have l1 : decide (t ≤ s.la) = false := by simp; omega
  have l4 : wrap64 (t - s.la) = t - s.la := by unfold wrap64; omega
  have l2 : (s.st == 1) = false := by simpa using hs
  have l5 : wrap64 (-o) = -o := by unfold wrap64; omega
  have l6 : decide (s.sa ≤ max o (-o)) = true := by simp; omega
  have lg := fun (w1 : World) (h1 : Lp w1 b s) => large_any b s t o (t - s.la) w1 h1 ok (by intro e; omega) (by have := ok.sp2; omega) t2 o1 o2
  generalize largeF s t o (t - s.la) = r at *
  clear t1 t2 o1 o2 p1 p2 hz ok hl hl0 hs
  go_enter Tryd.func18, Tryd.ntmps18
  go_wp2_with fail
  go_quiet ((go_at_call 26; first | with_reducible exact qs (i1 _) | with_reducible exact qs (i2 _) | with_reducible exact qs (i3 _)))
  rename_i nq
  go_wp2_with fail
  simp only [l4]
  obtain ⟨s', k, v⟩ := r
  refine (lg _ (((H.out.alloc _).drewN nq).alloc _)).mono ?_
  rintro x w1 ⟨rfl, hl, ho⟩
  have HL := Kp.mk hl
  have HO : Kp (Oth b w w1) := ⟨((((Oth.refl _ _).alloc _).drewN nq).alloc _).trans ho⟩
  obtain ⟨⟨g0, g1, g2, g3⟩, g4, g5, g6, g7⟩ := two_cells w nq b lt w1 ho
  have hb : w.heap.size ≠ b := by omega
  have hb' : b ≠ w.heap.size := by omega
  have hc : w.heap.size + 1 ≠ b := by omega
  have hc' : b ≠ w.heap.size + 1 := by omega
  clear c0 c1 c2 c3 c4 c5 c6 c7 c8 c9 c10 c11 f5 f6 f7 f8 f9 f10 f11
  obtain ⟨lt1, c0, c1, c2, c3, c4, c5, c6, c7, c8, c9, c10, c11, f5, f6, f7, f8, f9, f10, f11⟩ := hl
  clear ho lg lt
  unfold act
  go_wp2_with fail
  refine bodyPost_ret (v := upv k v 0) (by simp [results, Tryd.results18, go_sem, upv, act, g0, g1, g2, g3, hb, hb', hc, hc']) rfl ⟨rfl, ?_, ?_⟩
  · exact (((((((HL.out.setOther hc' _).setOther hc' _).set8 _).set9 _).set10 _).setOther hb' _).setOther hb' _)
  · exact (((((((HO.out.setNew (by exact Nat.le_succ _) _).setNew (by exact Nat.le_succ _) _).setCell (by rfl) _).setCell (by rfl) _).setCell (by rfl) _).setNew (by exact Nat.le_refl _) _).setNew (by exact Nat.le_refl _) _)
set_option maxHeartbeats 2000000 in
theorem upd_old_small (b : Nat) (s : LS) (t o p : Int) (w : World) (h : Lp w b s) (t1 : 0 ≤ t) (t2 : t ≤ 1073741824) (o1 : -1125899906842624 ≤ o) (o2 : o ≤ 1125899906842624) (p1 : s.mn ≤ p) (p2 : p ≤ s.mx) (hu : s.up = true) (hl : s.la < t) (hl0 : 0 ≤ s.la) (hs : s.st ≠ 1) (ok : s.Ok) (hz : max o (-o) < s.sa) : Calls Tryd.prog 18 #[.pointer (some ⟨b, 0, none⟩), .int .i64 t, .int .i64 o, .int .i64 p] w (LPost b { smallF s o (t - s.la) p with la := t, po := p, up := true } (upv 1 (smallF s o (t - s.la) p).fr 0) w) := by
  have hmf : ∀ (fn : Fn) (first cap : Array Value) (w : World), (Instr.makeFunc fn first cap).run Tryd.prog w = .ok (.func fn first cap) w := fun _ _ _ _ => rfl
  have H := Kp.mk h
  obtain ⟨lt, c0, c1, c2, c3, c4, c5, c6, c7, c8, c9, c10, c11, f5, f6, f7, f8, f9, f10, f11⟩ := h
  have i1 := fun w => in_any t 0 1073741824 w
  have i2 := fun w => in_any o (-1125899906842624) 1125899906842624 w
  have i3 := fun w => in_any p s.mn s.mx w
  rw [inB_iff.2 ⟨t1, t2⟩] at i1
  rw [inB_iff.2 ⟨o1, o2⟩] at i2
  rw [inB_iff.2 ⟨p1, p2⟩] at i3
  rw [hu] at c10
  have l1 : decide (t ≤ s.la) = false := by simp; omega
  have l4 : wrap64 (t - s.la) = t - s.la := by unfold wrap64; omega
  have l2 : (s.st == 1) = false := by simpa using hs
  have l5 : wrap64 (-o) = -o := by unfold wrap64; omega
  have l6 : decide (s.sa ≤ max o (-o)) = false := by simp; omega
  have lg := fun (w1 : World) (h1 : Lp w1 b s) => small_any b s o (t - s.la) p w1 h1 ok (by intro e; omega) (by omega) (by have := ok.mn1; omega) (by have := ok.mx2; omega) o1 o2
  generalize smallF s o (t - s.la) p = r at *
  clear t1 t2 o1 o2 p1 p2 hz ok hl hl0 hs
  go_enter Tryd.func18, Tryd.ntmps18
  go_wp2_with fail
  go_quiet ((go_at_call 26; first | with_reducible exact qs (i1 _) | with_reducible exact qs (i2 _) | with_reducible exact qs (i3 _)))
  rename_i nq
  go_wp2_with fail
  simp only [l4]
  refine (lg _ (((H.out.alloc _).drewN nq).alloc _)).mono ?_
  rintro x w1 ⟨rfl, hl, ho⟩
  have HL := Kp.mk hl
  have HO : Kp (Oth b w w1) := ⟨((((Oth.refl _ _).alloc _).drewN nq).alloc _).trans ho⟩
  obtain ⟨⟨g0, g1, g2, g3⟩, g4, g5, g6, g7⟩ := two_cells w nq b lt w1 ho
  have hb : w.heap.size ≠ b := by omega
  have hb' : b ≠ w.heap.size := by omega
  have hc : w.heap.size + 1 ≠ b := by omega
  have hc' : b ≠ w.heap.size + 1 := by omega
  clear c0 c1 c2 c3 c4 c5 c6 c7 c8 c9 c10 c11 f5 f6 f7 f8 f9 f10 f11
  obtain ⟨lt1, c0, c1, c2, c3, c4, c5, c6, c7, c8, c9, c10, c11, f5, f6, f7, f8, f9, f10, f11⟩ := hl
  clear ho lg lt
  go_wp2_with fail
  refine bodyPost_ret (v := upv 1 r.fr 0) (by simp [results, Tryd.results18, go_sem, upv, act, g0, g1, g2, g3, hb, hb', hc, hc']) rfl ⟨rfl, ?_, ?_⟩
  · exact (((((((HL.out.setOther hc' _).setOther hc' _).set8 _).set9 _).set10 _).setOther hb' _).setOther hb' _)
  · exact (((((((HO.out.setNew (by exact Nat.le_succ _) _).setNew (by exact Nat.le_succ _) _).setCell (by rfl) _).setCell (by rfl) _).setCell (by rfl) _).setNew (by exact Nat.le_refl _) _).setNew (by exact Nat.le_refl _) _)
theorem upd_any (b : Nat) (s : LS) (t o p : Int) (w : World) (h : Lp w b s) (ok : s.Ok) : Calls Tryd.prog 18 #[.pointer (some ⟨b, 0, none⟩), .int .i64 t, .int .i64 o, .int .i64 p] w (LPost b (updF s t o p).1 (upv (updF s t o p).2.1.1 (updF s t o p).2.1.2 (updF s t o p).2.2) w) := by
  have ok' := ok
  obtain ⟨mn1, mnx, mx2, sa1, sa2, so1, so2, li1, li2, st1, st2, fr1, fr2, ph1, ph2, la1, la2, po1, po2, sp1, sp2, new⟩ := ok
  unfold updF
  split
  · rename_i hr
    exact upd_range b s t o p w h hr
  · rename_i hr
    have hr' : ((inB t 0 1073741824 && inB o (-1125899906842624) 1125899906842624) && inB p s.mn s.mx) = true := (Bool.not_eq_false _).mp hr
    simp only [Bool.and_eq_true, inB_iff] at hr'
    obtain ⟨⟨⟨t1, t2⟩, o1, o2⟩, p1, p2⟩ := hr'
    clear hr
    rcases Bool.eq_false_or_eq_true s.up with hu | hu
    · simp only [hu, true_and, if_true]
      split
      · exact upd_order b s t o p w h t1 t2 o1 o2 p1 p2 hu (by assumption)
      · rename_i hl
        split
        · rename_i hs
          exact upd_skip b s t o p w h t1 t2 o1 o2 p1 p2 hu (by omega) la1 hs.1 hs.2
        · rename_i hs
          by_cases he : s.st = 1
          · split
            · exact upd_freq_large b s t o p w h t1 t2 o1 o2 p1 p2 hu (by omega) la1 he (by omega) ok' (by assumption)
            · exact upd_freq_small b s t o p w h t1 t2 o1 o2 p1 p2 hu (by omega) la1 he (by omega) ok' (by omega)
          · split
            · exact upd_old_large b s t o p w h t1 t2 o1 o2 p1 p2 hu (by omega) la1 he ok' (by assumption)
            · exact upd_old_small b s t o p w h t1 t2 o1 o2 p1 p2 hu (by omega) la1 he ok' (by omega)
    · have hn := (new hu).1
      rw [if_neg (by simp [hu]), if_neg (by omega), if_neg (show ¬ s.up = true by simp [hu])]
      split
      · exact upd_new_large b s t o p w h t1 t2 o1 o2 p1 p2 hu hn ok' (by assumption)
      · exact upd_new_small b s t o p w h t1 t2 o1 o2 p1 p2 hu hn ok' (by omega)
theorem upd_ok (s : LS) (t o p : Int) (ok : s.Ok) : (updF s t o p).1.Ok := by
  have ok' := ok
  obtain ⟨mn1, mnx, mx2, sa1, sa2, so1, so2, li1, li2, st1, st2, fr1, fr2, ph1, ph2, la1, la2, po1, po2, sp1, sp2, new⟩ := ok
  have cl := fun n => clampF_in (n := n) li1
  unfold updF
  obtain ⟨mu, hmu⟩ : ∃ mu, (if s.up = true then t - s.la else 0) = mu := ⟨_, rfl⟩
  simp only [hmu]
  split
  · exact ok'
  · rename_i hr
    have hr' : ((inB t 0 1073741824 && inB o (-1125899906842624) 1125899906842624) && inB p s.mn s.mx) = true := (Bool.not_eq_false _).mp hr
    simp only [Bool.and_eq_true, inB_iff] at hr'
    obtain ⟨⟨⟨t1, t2⟩, o1, o2⟩, p1, p2⟩ := hr'
    clear hr
    have hsp : s.sp ≤ t ∨ s.up = true ∧ t ≤ s.la := by
      rcases Bool.eq_false_or_eq_true s.up with hu | hu
      · by_cases t ≤ s.la
        · exact .inr ⟨hu, by assumption⟩
        · left; omega
      · left; have := (new hu).2; omega
    split
    · exact ok'
    · rename_i hn
      have hsp : s.sp ≤ t := by rcases hsp with h | h; exact h; exact absurd h hn
      split
      · exact ok'
      · rename_i hf
        clear hmu
        have c1 := cl (s.fr + o / mu)
        have c2 := cl (s.fr + corr s.ph o mu p)
        split
        · unfold largeF
          split
          · constructor <;> simp <;> omega
          · split
            · constructor <;> simp <;> omega
            · split
              · constructor <;> simp <;> omega
              · split
                · constructor <;> simp <;> omega
                · constructor <;> simp <;> omega
        · unfold smallF
          split
          · constructor <;> simp <;> omega
          · split
            · constructor <;> simp <;> omega
            · constructor <;> simp <;> omega
end Go.Proofs.YtbfobodaeimklaaDoor
