/-
  The contracts of package servo that TopLocks needs: New, clamp, steer and Sample of a servo with the gain one that has no integral.
-/
import Derived.Test.YtlmcmakiaiaieaaClockD
set_option linter.unusedSimpArgs false
set_option linter.unusedVariables false
namespace Go.Proofs.Ytlmcmakiaiaieaa
open Go.RowKit
theorem clamp_any (n lo hi : Int) (w : World) : Calls Try.prog 35 #[.int .i64 n, .int .i64 lo, .int .i64 hi] w fun x w' => x = .returned (.int .i64 (min (max n lo) hi)) ∧ w = w' := by
  go_enter Try.func35, Try.ntmps35
  go_wp2
  go_ret
  exact ⟨by simp, rfl⟩
/-- A servo with the gain one, without an integral, in block b. -/
structure Srv (w : World) (b : Nat) (n l : Int) : Prop where
  lt : b < w.heap.size
  c0 : w.cell? ⟨b, 0, none⟩ = some (.int .i64 65536)
  c1 : w.cell? ⟨b, 1, none⟩ = some (.int .i64 0)
  c2 : w.cell? ⟨b, 2, none⟩ = some (.int .i64 500000)
  c3 : w.cell? ⟨b, 3, none⟩ = some (.int .i64 0)
  c4 : w.cell? ⟨b, 4, none⟩ = some (.int .i64 0)
  c5 : w.cell? ⟨b, 5, none⟩ = some (.int .i64 0)
  c6 : w.cell? ⟨b, 6, none⟩ = some (.int .i64 n)
  c7 : w.cell? ⟨b, 7, none⟩ = some (.int .i64 l)
  f5 : w.frozen? ⟨b, 5, none⟩ = false
  f6 : w.frozen? ⟨b, 6, none⟩ = false
  f7 : w.frozen? ⟨b, 7, none⟩ = false
theorem Srv.below {w W : World} {b B : Nat} {n l : Int} (h : Srv w b n l) (hB : Below B w W) (hb : b < B) : Srv W b n l :=
  ⟨Nat.lt_of_lt_of_le h.lt hB.size, (hB.cell hb).trans h.c0, (hB.cell hb).trans h.c1, (hB.cell hb).trans h.c2, (hB.cell hb).trans h.c3, (hB.cell hb).trans h.c4, (hB.cell hb).trans h.c5, (hB.cell hb).trans h.c6, (hB.cell hb).trans h.c7,
    (hB.frozen hb).trans h.f5, (hB.frozen hb).trans h.f6, (hB.frozen hb).trans h.f7⟩
def ActPost (b : Nat) (v : Int) (w : World) (x : Ending) (w' : World) : Prop := x = .returned (.agg #[.int .i64 1, .int .i64 v]) ∧ Oth b w w'
theorem loc2 {w W : World} {v0 v1 : Value} {t : TypeId} (h : Below (w.alloc (.cells #[v0, v1] t)).heap.size (w.alloc (.cells #[v0, v1] t)) W) :
    (W.cell? ⟨w.heap.size, 0, none⟩ = some v0 ∧ W.cell? ⟨w.heap.size, 1, none⟩ = some v1) ∧ W.frozen? ⟨w.heap.size, 0, none⟩ = false ∧ W.frozen? ⟨w.heap.size, 1, none⟩ = false ∧ w.heap.size < W.heap.size := by
  refine ⟨⟨?_, ?_⟩, ?_, ?_, by have := h.size; simp at this; omega⟩
  · rw [h.cell (by simp), World.cell?_alloc_at _ _ _ _ rfl]; rfl
  · rw [h.cell (by simp), World.cell?_alloc_at _ _ _ _ rfl]; rfl
  · rw [h.frozen (by simp)]; exact World.frozen?_alloc_at _ _ _ _ rfl
  · rw [h.frozen (by simp)]; exact World.frozen?_alloc_at _ _ _ _ rfl
theorem Oth.setNew {b : Nat} {w w' : World} (h : Oth b w w') {p : Addr} (hp : w.heap.size ≤ p.block) (u : Value) : Oth b w (w'.setCell p u) :=
  ⟨h.os, h.tape, h.output, by have := h.size; simp [World.setCell]; omega, fun k hk hb => (Below.heap_setCell _ _ _ _ (by omega)).trans (h.block k hk hb)⟩
theorem Oth.drewN {b : Nat} {w w' : World} (h : Oth b w w') (n : Nat) : Oth b w (w'.drewN n) := ⟨h.os, h.tape, h.output, h.size, h.block⟩
set_option maxHeartbeats 4000000 in
theorem steer_any (b : Nat) (n l offset span e : Int) (w : World) (h : Srv w b n l) (ho1 : -9223372036854775808 ≤ offset) (ho2 : offset ≤ 9223372036854775807) (hs : 1 ≤ span) (hs2 : span ≤ 9223372036854775807)
    (he : offset * 1000000000 / span = e) (he1 : -500000 ≤ e) (he2 : e ≤ 500000) : Calls Try.prog 21 #[.pointer (some ⟨b, 0, none⟩), .int .i64 offset, .int .i64 span] w (ActPost b e w) := by
  have md := fun w => muldiv_any offset 1000000000 span ho1 ho2 (by omega) (by omega) (by omega) hs2 w
  have hm : mdiv offset 1000000000 span = (e, true) := by unfold mdiv; rw [he, if_pos (by omega)]
  unfold MulPost at md
  rw [hm] at md
  have H := Kp.mk h
  have hlt := h.lt
  have m1 : min (max e (-1000000000)) 1000000000 = e := by omega
  have m2 : min (max e (-500000)) 500000 = e := by omega
  have m0 : min (max (0 : Int) (-500000)) 500000 = 0 := by omega
  have cl1 := fun w => clamp_any e (-1000000000) 1000000000 w
  have cl0 := fun w => clamp_any 0 (-500000) 500000 w
  have cl2 := fun w => clamp_any e (-500000) 500000 w
  rw [m1] at cl1
  rw [m2] at cl2
  rw [m0] at cl0
  clear hm m1 m2 m0 he ho1 ho2 hs hs2 h
  go_enter Try.func21, Try.ntmps21
  go_wp2_with fail
  refine (md _).mono ?_
  rintro x w1 ⟨rfl, k, hw1⟩
  have hb := Below.of_some ⟨k, hw1⟩
  clear hw1
  obtain ⟨⟨r0, r1⟩, g0, g1, hlt1⟩ := loc2 hb
  have hb0 : Below w.heap.size w w1 := ((Below.refl _ _).alloc (Nat.le_refl _) _).trans (hb.mono (by simp))
  have HB := Kp.mk hb0
  obtain ⟨lt, c0, c1, c2, c3, c4, c5, c6, c7, f5, f6, f7⟩ := H.out.below hb0 hlt
  have hne : ¬ b = w.heap.size := by omega
  have hne' : ¬ w.heap.size = b := by omega
  clear hb hb0 md
  go_wp2_with fail
  refine (cl1 _).mono ?_
  rintro x w2 ⟨rfl, rfl⟩
  clear cl1
  go_wp2_with fail
  refine wp_region_quiet_tail 28 (by kernel_rfl) (by kernel_rfl) ?_
  simp only [List.take_succ_cons, List.take_zero, List.drop_succ_cons, List.drop_zero]
  repeat (go_big_quiet_step ((go_at_call 35; exact qs (cl0 _))))
  refine wpQuiet_nil ?_
  intro w5 hw'
  have hb5 := Below.of_some hw'
  have HB5 : Kp (Below w.heap.size w w5) := ⟨Below.then HB.out HB.out.size hb5⟩
  have R0 := (hb5.cell (p := ⟨w.heap.size, 0, none⟩) hlt1).trans r0
  have R1 := (hb5.cell (p := ⟨w.heap.size, 1, none⟩) hlt1).trans r1
  have G0 := (hb5.frozen (p := ⟨w.heap.size, 0, none⟩) hlt1).trans g0
  have G1 := (hb5.frozen (p := ⟨w.heap.size, 1, none⟩) hlt1).trans g1
  clear hw' hb5 HB r0 r1 g0 g1 c0 c1 c2 c3 c4 c5 c6 c7 f5 f6 f7 lt hlt1 cl0
  obtain ⟨lt, c0, c1, c2, c3, c4, c5, c6, c7, f5, f6, f7⟩ := H.out.below HB5.out hlt
  have es : 65536 * e / 65536 = e := by omega
  go_wp2_with fail
  refine wp_region_quiet_tail 28 (by kernel_rfl) (by kernel_rfl) ?_
  simp only [List.take_succ_cons, List.take_zero, List.drop_succ_cons, List.drop_zero]
  repeat (go_big_quiet_step ((go_at_call 35; exact qs (cl2 _))))
  refine wpQuiet_nil ?_
  intro w6 hw'
  obtain ⟨nq, hw''⟩ := hw'
  subst hw''
  clear cl2
  go_wp2
  refine bodyPost_ret (v := .agg #[.int .i64 1, .int .i64 e]) (by simp [results, Try.results21, go_sem, R0, R1, hne, hne']) rfl ⟨rfl, ?_⟩
  refine Oth.setNew ?_ (by exact Nat.le_refl _) _
  refine Oth.setNew ?_ (by exact Nat.le_refl _) _
  refine Oth.setCell ?_ (by rfl) _
  refine Oth.drewN ?_ _
  refine Oth.setCell ?_ (by rfl) _
  exact Oth.of_below HB5.out
theorem srv_one {w : World} {b : Nat} (o : Obj) (h : Srv w b 0 0) : Srv ((w.setCell ⟨b, 6, none⟩ (.int .i64 1)).alloc o) b 1 0 := by
  obtain ⟨lt, c0, c1, c2, c3, c4, c5, c6, c7, f5, f6, f7⟩ := h
  have lt' : b < (w.setCell ⟨b, 6, none⟩ (.int .i64 1)).heap.size := by simp [World.setCell, lt]
  have k : Srv (w.setCell ⟨b, 6, none⟩ (.int .i64 1)) b 1 0 := by
    refine ⟨lt', ?_, ?_, ?_, ?_, ?_, ?_, ?_, ?_, ?_, ?_, ?_⟩ <;> simp [go_sem, c0, c1, c2, c3, c4, c5, c6, c7, f5, f6, f7, World.frozen?_setCell]
  exact k.below ((Below.refl _ _).alloc (Nat.le_refl _) _) lt'
def SamPost (b : Nat) (v : Int) (w : World) (x : Ending) (w' : World) : Prop := x = .returned (.tuple #[.agg #[.int .i64 1, .int .i64 v], .int .i64 0]) ∧ Oth b w w'
set_option maxHeartbeats 4000000 in
theorem sample_any (b : Nat) (offset span e : Int) (w : World) (h : Srv w b 0 0) (ho1 : -1125899906842624 ≤ offset) (ho2 : offset ≤ 1125899906842624) (hs : 1 ≤ span) (hs2 : span ≤ 1125899906842624)
    (he : offset * 1000000000 / span = e) (he1 : -500000 ≤ e) (he2 : e ≤ 500000) : Calls Try.prog 7 #[.pointer (some ⟨b, 0, none⟩), .int .i64 offset, .int .i64 span] w (SamPost b e w) := by
  have hmf : ∀ (fn : Fn) (first cap : Array Value) (w : World), (Instr.makeFunc fn first cap).run Try.prog w = .ok (.func fn first cap) w := fun _ _ _ _ => rfl
  have st := fun (w1 : World) (h1 : Srv w1 b 1 0) => steer_any b 1 0 offset span e w1 h1 (by omega) (by omega) hs (by omega) he he1 he2
  have H := Kp.mk h
  have hlt := h.lt
  obtain ⟨lt, c0, c1, c2, c3, c4, c5, c6, c7, f5, f6, f7⟩ := h
  have t1 : decide (offset < -1125899906842624) = false := by simp; omega
  have t2 : decide (offset > 1125899906842624) = false := by simp; omega
  have t3 : decide (span < 1) = false := by simp; omega
  have t4 : decide (span > 1125899906842624) = false := by simp; omega
  clear he
  go_enter Try.func7, Try.ntmps7
  go_wp2_with fail
  have hS := srv_one (.cells #[.int .i64 0, .int .i64 0] 29) H.out
  have hO : Oth b w ((w.setCell ⟨b, 6, none⟩ (.int .i64 1)).alloc (.cells #[.int .i64 0, .int .i64 0] 29)) := (Oth.setCell (Oth.of_below (Below.refl _ _)) (by rfl) _).trans (Oth.of_below ((Below.refl _ _).alloc (Nat.le_refl _) _))
  obtain ⟨X, hX⟩ : ∃ X, w.setCell ⟨b, 6, none⟩ (.int .i64 1) = X := ⟨_, rfl⟩
  have hXs : X.heap.size = w.heap.size := by rw [← hX]; simp [World.setCell]
  rw [hX] at hS hO ⊢
  obtain ⟨⟨r0, r1⟩, g0, g1, hlt1⟩ := loc2 (Below.refl (X.alloc (.cells #[.int .i64 0, .int .i64 0] 29)).heap.size (X.alloc (.cells #[.int .i64 0, .int .i64 0] 29)))
  rw [hXs] at r0 r1 g0 g1 hlt1
  clear hX c0 c1 c2 c3 c4 c5 c6 c7 f5 f6 f7
  refine (st _ hS).mono ?_
  rintro x w1 ⟨rfl, ho⟩
  have hne : w.heap.size ≠ b := by omega
  have R0 := (ho.cell (p := ⟨w.heap.size, 0, none⟩) hlt1 hne).trans r0
  have R1 := (ho.cell (p := ⟨w.heap.size, 1, none⟩) hlt1 hne).trans r1
  have G0 := (ho.frozen (p := ⟨w.heap.size, 0, none⟩) hlt1 hne).trans g0
  have G1 := (ho.frozen (p := ⟨w.heap.size, 1, none⟩) hlt1 hne).trans g1
  have HO : Kp (Oth b w w1) := ⟨hO.trans ho⟩
  clear r0 r1 g0 g1 hlt1 ho hO hS st
  go_wp2_with fail
  refine bodyPost_ret (v := .tuple #[.agg #[.int .i64 1, .int .i64 e], .int .i64 0]) (by simp [results, Try.results7, go_sem, R0, R1]) rfl ⟨rfl, ?_⟩
  refine Oth.setNew ?_ (by exact Nat.le_refl _) _
  refine Oth.setNew ?_ (by exact Nat.le_refl _) _
  exact HO.out
theorem srv_alloc (w : World) (t : TypeId) : Srv (w.alloc (.cells #[.int .i64 65536, .int .i64 0, .int .i64 500000, .int .i64 0, .int .i64 0, .int .i64 0, .int .i64 0, .int .i64 0] t)) w.heap.size 0 0 := by
  refine ⟨by simp, ?_, ?_, ?_, ?_, ?_, ?_, ?_, ?_, ?_, ?_, ?_⟩
  all_goals first | exact World.frozen?_alloc_at _ _ _ _ rfl | (rw [World.cell?_alloc_at _ _ _ _ rfl]; rfl)
def SrvPost (w : World) (x : Ending) (w' : World) : Prop := ∃ b, x = .returned (.pointer (some ⟨b, 0, none⟩)) ∧ w.heap.size ≤ b ∧ Srv w' b 0 0 ∧ Below w.heap.size w w'
set_option maxHeartbeats 2000000 in
theorem servo_new (w : World) : Calls Try.prog 5 #[.agg #[.int .i64 65536, .int .i64 0, .int .i64 500000, .int .i64 0, .int .i64 0]] w (SrvPost w) := by
  go_enter Try.func5, Try.ntmps5
  go_wp2
  have hs := srv_alloc ((w.alloc (.cells #[.int .i64 65536, .int .i64 0, .int .i64 500000, .int .i64 0, .int .i64 0] 25)).alloc (.cells #[.int .i64 65536, .int .i64 0, .int .i64 500000, .int .i64 0, .int .i64 0] 25)) 64
  have hb : Below w.heap.size w (((w.alloc (.cells #[.int .i64 65536, .int .i64 0, .int .i64 500000, .int .i64 0, .int .i64 0] 25)).alloc (.cells #[.int .i64 65536, .int .i64 0, .int .i64 500000, .int .i64 0, .int .i64 0] 25)).alloc (.cells #[.int .i64 65536, .int .i64 0, .int .i64 500000, .int .i64 0, .int .i64 0, .int .i64 0, .int .i64 0, .int .i64 0] 64)) := (below_alloc2 w _ _).alloc (by simp; omega) _
  have e2 : ((w.alloc (.cells #[.int .i64 65536, .int .i64 0, .int .i64 500000, .int .i64 0, .int .i64 0] 25)).alloc (.cells #[.int .i64 65536, .int .i64 0, .int .i64 500000, .int .i64 0, .int .i64 0] 25)).heap.size = w.heap.size + 1 + 1 := by simp
  rw [e2] at hs
  exact bodyPost_ret (v := .pointer (some ⟨w.heap.size + 1 + 1, 0, none⟩)) (by simp [results, Try.results5, go_sem]) rfl ⟨_, rfl, by omega, hs, hb⟩
/-- The plain law of locking. -/
theorem locks_plain (offset span e : Int) (h1 : 1 ≤ span) (h2 : span ≤ 1099511627776) (h3 : -(span / 4000) ≤ offset) (h4 : offset ≤ span / 4000) (he : offset * 1000000000 / span = e) :
    -250000 ≤ e ∧ e ≤ 250000 ∧ 0 ≤ offset - partF span e ∧ offset - partF span e ≤ span / 1000000000 + 1 := by
  have hd := Int.emod_add_mul_ediv (offset * 1000000000) span
  have hm0 := Int.emod_nonneg (offset * 1000000000) (show span ≠ 0 by omega)
  have hm1 := Int.emod_lt_of_pos (offset * 1000000000) (show 0 < span by omega)
  rw [he] at hd
  have e1 : -250000 ≤ e := by
    rw [← he]
    exact (Int.le_ediv_iff_mul_le (by omega)).2 (by omega)
  have e2 : e ≤ 250000 := by
    rw [← he]
    have : offset * 1000000000 / span < 250001 := (Int.ediv_lt_iff_lt_mul (by omega)).2 (by omega)
    omega
  refine ⟨e1, e2, ?_⟩
  unfold partF
  generalize span * e = x at *
  generalize offset * 1000000000 % span = y at *
  omega
end Go.Proofs.Ytlmcmakiaiaieaa
