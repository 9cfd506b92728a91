/-
  The check of a message.
-/
import Derived.Test.YtfpepiabpadjdaaResA
set_option linter.unusedSimpArgs false
set_option linter.unusedVariables false
namespace Go.Proofs.Ytfpepiabpadjdaa
open Go.RowKit
def inB (n lo hi : Int) : Bool := decide (lo ≤ n) && decide (n ≤ hi)
theorem within_any (n lo hi : Int) (w : World) : Calls Try.prog 62 #[.int .i64 n, .int .i64 lo, .int .i64 hi] w fun e w' => e = .returned (.bool (inB n lo hi)) ∧ w = w' := by
  unfold inB
  by_cases h : lo ≤ n
  · go_enter Try.func62, Try.ntmps62
    go_wp2
    go_ret
    exact ⟨by simp [h], rfl⟩
  · go_enter Try.func62, Try.ntmps62
    go_wp2
    go_ret
    exact ⟨by rw [show decide (lo ≤ n) = false by simpa using h, Bool.false_and]; rfl, rfl⟩
def reqB (k : Int) : Bool := k == 9 || k == 3 || k == 10
theorem requester_any (k : Int) (w : World) : Calls Try.prog 44 #[.int .i64 k] w fun e w' => e = .returned (.bool (reqB k)) ∧ w = w' := by
  have h : reqB k = (k == 9 || k == 3 || k == 10) := rfl
  rw [h]
  clear h
  go_enter Try.func44, Try.ntmps44
  go_wp2
  all_goals
    go_ret
    first | exact ⟨rfl, rfl⟩ | exact ⟨by simp_all, rfl⟩
def stampB (s n : Int) : Bool := decide (0 ≤ s) && decide (s ≤ 281474976710655) && decide (0 ≤ n) && decide (n < 1000000000)
/-- A call whose error is nought just where c holds. -/
def EPost (c : Bool) (w : World) (x : Ending) (w' : World) : Prop := ∃ e, x = .returned (.int .i64 e) ∧ (e == 0) = c ∧ Below w.heap.size w w'
theorem pcheck_any (s n : Int) (w : World) : Calls Try.prog 63 #[.agg #[.int .i64 s, .int .i64 n]] w (EPost (stampB s n) w) := by
  rcases Bool.eq_false_or_eq_true (stampB s n) with h | h
  all_goals
    rw [h]
    have H := Kp.mk h
    clear h
    go_enter Try.func63, Try.ntmps63
    go_wp2
    all_goals
      have h := H.out
      simp [stampB] at h
      first
        | (exfalso; omega)
        | exact bodyPost_ret (v := .int .i64 0) (by simp [results, Try.results63, go_sem]; done) rfl ⟨0, rfl, rfl, (Below.refl _ _).alloc (Nat.le_refl _) _⟩
        | exact bodyPost_ret (v := .int .i64 3) (by simp [results, Try.results63, go_sem]; done) rfl ⟨3, rfl, rfl, (Below.refl _ _).alloc (Nat.le_refl _) _⟩
/-- A message's fields. -/
structure PM where
  kind : Int
  domain : Int
  flags : Int
  corr : Int
  clock : Int
  port : Int
  seq : Int
  logint : Int
  sec : Int
  nano : Int
  reqclock : Int
  reqport : Int
  utc : Int
  p1 : Int
  cls : Int
  acc : Int
  vr : Int
  p2 : Int
  gm : Int
  steps : Int
  src : Int
def PM.vals (p : PM) : Array Value := #[.int .i64 p.kind, .int .i64 p.domain, .int .i64 p.flags, .int .i64 p.corr, .int .u64 p.clock, .int .i64 p.port, .int .i64 p.seq, .int .i64 p.logint, .int .i64 p.sec, .int .i64 p.nano, .int .u64 p.reqclock, .int .i64 p.reqport, .int .i64 p.utc, .int .i64 p.p1, .int .i64 p.cls, .int .i64 p.acc, .int .i64 p.vr, .int .i64 p.p2, .int .u64 p.gm, .int .i64 p.steps, .int .i64 p.src]
def inRB (p : PM) : Bool := ((((((((((((((inB p.domain 0 255 && inB p.flags 0 65535) && inB p.port 0 65535) && inB p.seq 0 65535) && inB p.logint (-128) 127) && stampB p.sec p.nano) && inB p.reqport 0 65535) && inB p.utc (-32768) 32767) && inB p.p1 0 255) && inB p.cls 0 255) && inB p.acc 0 255) && inB p.vr 0 65535) && inB p.p2 0 255) && inB p.steps 0 65535) && inB p.src 0 255)
def BPost (r : Bool) (w : World) (x : Ending) (w' : World) : Prop := x = .returned (.bool r) ∧ Below w.heap.size w w'
set_option maxHeartbeats 4000000 in
theorem inrange_any (p : PM) (w : World) : Calls Try.prog 43 #[.agg p.vals] w (BPost (inRB p) w) := by
  obtain ⟨r, hr⟩ : ∃ r, inRB p = r := ⟨_, rfl⟩
  rw [hr]
  unfold inRB at hr
  have i1 := fun w => within_any p.domain 0 255 w
  have i2 := fun w => within_any p.flags 0 65535 w
  have i3 := fun w => within_any p.port 0 65535 w
  have i4 := fun w => within_any p.seq 0 65535 w
  have i5 := fun w => within_any p.logint (-128) 127 w
  have i6 := fun w => pcheck_any p.sec p.nano w
  have i7 := fun w => within_any p.reqport 0 65535 w
  have i8 := fun w => within_any p.utc (-32768) 32767 w
  have i9 := fun w => within_any p.p1 0 255 w
  have i10 := fun w => within_any p.cls 0 255 w
  have i11 := fun w => within_any p.acc 0 255 w
  have i12 := fun w => within_any p.vr 0 65535 w
  have i13 := fun w => within_any p.p2 0 255 w
  have i14 := fun w => within_any p.steps 0 65535 w
  have i15 := fun w => within_any p.src 0 255 w
  generalize inB p.domain 0 255 = b1 at *
  generalize inB p.flags 0 65535 = b2 at *
  generalize inB p.port 0 65535 = b3 at *
  generalize inB p.seq 0 65535 = b4 at *
  generalize inB p.logint (-128) 127 = b5 at *
  generalize stampB p.sec p.nano = b6 at *
  generalize inB p.reqport 0 65535 = b7 at *
  generalize inB p.utc (-32768) 32767 = b8 at *
  generalize inB p.p1 0 255 = b9 at *
  generalize inB p.cls 0 255 = b10 at *
  generalize inB p.acc 0 255 = b11 at *
  generalize inB p.vr 0 65535 = b12 at *
  generalize inB p.p2 0 255 = b13 at *
  generalize inB p.steps 0 65535 = b14 at *
  generalize inB p.src 0 255 = b15 at *
  have HR := Kp.mk hr
  clear hr
  obtain ⟨kind, domain, flags, corr, clock, port, seq, logint, sec, nano, reqclock, reqport, utc, p1, cls, acc, vr, p2, gm, steps, src⟩ := p
  simp only at i1 i2 i3 i4 i5 i6 i7 i8 i9 i10 i11 i12 i13 i14 i15
  unfold PM.vals
  go_enter Try.func43, Try.ntmps43
  go_wp2_with fail
  obtain ⟨W, hW⟩ : ∃ W, W = (w.alloc (.cells #[.int .i64 kind, .int .i64 domain, .int .i64 flags, .int .i64 corr, .int .u64 clock, .int .i64 port, .int .i64 seq, .int .i64 logint, .int .i64 sec, .int .i64 nano, .int .u64 reqclock, .int .i64 reqport, .int .i64 utc, .int .i64 p1, .int .i64 cls, .int .i64 acc, .int .i64 vr, .int .i64 p2, .int .u64 gm, .int .i64 steps, .int .i64 src] 33)).alloc (.cells #[.int .i64 utc, .int .i64 p1, .int .i64 cls, .int .i64 acc, .int .i64 vr, .int .i64 p2, .int .u64 gm, .int .i64 steps, .int .i64 src] 31) := ⟨_, rfl⟩
  have hB : Below w.heap.size w W := by rw [hW]; exact ((Below.refl _ _).alloc (Nat.le_refl _) _).alloc (by simp) _
  have hs : w.heap.size + 1 < W.heap.size := by rw [hW]; simp
  have c0 : W.cell? ⟨w.heap.size, 1, none⟩ = some (.int .i64 domain) := by rw [hW, World.cell?_alloc_lt _ _ _ (by simp), World.cell?_alloc_at _ _ _ _ rfl]; rfl
  have c1 : W.cell? ⟨w.heap.size, 2, none⟩ = some (.int .i64 flags) := by rw [hW, World.cell?_alloc_lt _ _ _ (by simp), World.cell?_alloc_at _ _ _ _ rfl]; rfl
  have c2 : W.cell? ⟨w.heap.size, 5, none⟩ = some (.int .i64 port) := by rw [hW, World.cell?_alloc_lt _ _ _ (by simp), World.cell?_alloc_at _ _ _ _ rfl]; rfl
  have c3 : W.cell? ⟨w.heap.size, 6, none⟩ = some (.int .i64 seq) := by rw [hW, World.cell?_alloc_lt _ _ _ (by simp), World.cell?_alloc_at _ _ _ _ rfl]; rfl
  have c4 : W.cell? ⟨w.heap.size, 7, none⟩ = some (.int .i64 logint) := by rw [hW, World.cell?_alloc_lt _ _ _ (by simp), World.cell?_alloc_at _ _ _ _ rfl]; rfl
  have c5 : W.cell? ⟨w.heap.size, 8, none⟩ = some (.int .i64 sec) := by rw [hW, World.cell?_alloc_lt _ _ _ (by simp), World.cell?_alloc_at _ _ _ _ rfl]; rfl
  have c6 : W.cell? ⟨w.heap.size, 9, none⟩ = some (.int .i64 nano) := by rw [hW, World.cell?_alloc_lt _ _ _ (by simp), World.cell?_alloc_at _ _ _ _ rfl]; rfl
  have c7 : W.cell? ⟨w.heap.size, 11, none⟩ = some (.int .i64 reqport) := by rw [hW, World.cell?_alloc_lt _ _ _ (by simp), World.cell?_alloc_at _ _ _ _ rfl]; rfl
  have c8 : W.cell? ⟨w.heap.size + 1, 0, none⟩ = some (.int .i64 utc) := by rw [hW, World.cell?_alloc_at _ _ _ _ (by simp)]; rfl
  have c9 : W.cell? ⟨w.heap.size + 1, 1, none⟩ = some (.int .i64 p1) := by rw [hW, World.cell?_alloc_at _ _ _ _ (by simp)]; rfl
  have c10 : W.cell? ⟨w.heap.size + 1, 2, none⟩ = some (.int .i64 cls) := by rw [hW, World.cell?_alloc_at _ _ _ _ (by simp)]; rfl
  have c11 : W.cell? ⟨w.heap.size + 1, 3, none⟩ = some (.int .i64 acc) := by rw [hW, World.cell?_alloc_at _ _ _ _ (by simp)]; rfl
  have c12 : W.cell? ⟨w.heap.size + 1, 4, none⟩ = some (.int .i64 vr) := by rw [hW, World.cell?_alloc_at _ _ _ _ (by simp)]; rfl
  have c13 : W.cell? ⟨w.heap.size + 1, 5, none⟩ = some (.int .i64 p2) := by rw [hW, World.cell?_alloc_at _ _ _ _ (by simp)]; rfl
  have c14 : W.cell? ⟨w.heap.size + 1, 7, none⟩ = some (.int .i64 steps) := by rw [hW, World.cell?_alloc_at _ _ _ _ (by simp)]; rfl
  have c15 : W.cell? ⟨w.heap.size + 1, 8, none⟩ = some (.int .i64 src) := by rw [hW, World.cell?_alloc_at _ _ _ _ (by simp)]; rfl
  rw [← hW]
  clear hW
  with_reducible refine (i1 _).mono ?_
  rintro e w' ⟨rfl, rfl⟩
  cases b1
  · go_wp2_with fail
    exact bodyPost_ret (v := .bool false) (by simp [results, Try.results43, go_sem]) rfl ⟨by rw [← HR.out]; simp, hB⟩
  · go_wp2_with fail
    with_reducible refine (i2 _).mono ?_
    rintro e w' ⟨rfl, rfl⟩
    cases b2
    · go_wp2_with fail
      exact bodyPost_ret (v := .bool false) (by simp [results, Try.results43, go_sem]) rfl ⟨by rw [← HR.out]; simp, hB⟩
    · go_wp2_with fail
      with_reducible refine (i3 _).mono ?_
      rintro e w' ⟨rfl, rfl⟩
      cases b3
      · go_wp2_with fail
        exact bodyPost_ret (v := .bool false) (by simp [results, Try.results43, go_sem]) rfl ⟨by rw [← HR.out]; simp, hB⟩
      · go_wp2_with fail
        with_reducible refine (i4 _).mono ?_
        rintro e w' ⟨rfl, rfl⟩
        cases b4
        · go_wp2_with fail
          exact bodyPost_ret (v := .bool false) (by simp [results, Try.results43, go_sem]) rfl ⟨by rw [← HR.out]; simp, hB⟩
        · go_wp2_with fail
          with_reducible refine (i5 _).mono ?_
          rintro e w' ⟨rfl, rfl⟩
          cases b5
          · go_wp2_with fail
            exact bodyPost_ret (v := .bool false) (by simp [results, Try.results43, go_sem]) rfl ⟨by rw [← HR.out]; simp, hB⟩
          · go_wp2_with fail
            refine (i6 _).mono ?_
            rintro e w1 ⟨er, rfl, he, hb1⟩
            have hB1 := Below.then hB hB.size hb1
            have d7 := (hb1.cell (p := ⟨w.heap.size, 11, none⟩) (by show w.heap.size < _; omega)).trans c7
            have d8 := (hb1.cell (p := ⟨w.heap.size + 1, 0, none⟩) (by show w.heap.size + 1 < _; omega)).trans c8
            have d9 := (hb1.cell (p := ⟨w.heap.size + 1, 1, none⟩) (by show w.heap.size + 1 < _; omega)).trans c9
            have d10 := (hb1.cell (p := ⟨w.heap.size + 1, 2, none⟩) (by show w.heap.size + 1 < _; omega)).trans c10
            have d11 := (hb1.cell (p := ⟨w.heap.size + 1, 3, none⟩) (by show w.heap.size + 1 < _; omega)).trans c11
            have d12 := (hb1.cell (p := ⟨w.heap.size + 1, 4, none⟩) (by show w.heap.size + 1 < _; omega)).trans c12
            have d13 := (hb1.cell (p := ⟨w.heap.size + 1, 5, none⟩) (by show w.heap.size + 1 < _; omega)).trans c13
            have d14 := (hb1.cell (p := ⟨w.heap.size + 1, 7, none⟩) (by show w.heap.size + 1 < _; omega)).trans c14
            have d15 := (hb1.cell (p := ⟨w.heap.size + 1, 8, none⟩) (by show w.heap.size + 1 < _; omega)).trans c15
            have hs1 := Nat.lt_of_lt_of_le hs hb1.size
            clear hb1 c0 c1 c2 c3 c4 c5 c6 c7 c8 c9 c10 c11 c12 c13 c14 c15
            cases b6
            · go_wp2_with fail
              exact bodyPost_ret (v := .bool false) (by simp [results, Try.results43, go_sem]) rfl ⟨by rw [← HR.out]; simp, hB1⟩
            · go_wp2_with fail
              with_reducible refine (i7 _).mono ?_
              rintro e w' ⟨rfl, rfl⟩
              cases b7
              · go_wp2_with fail
                exact bodyPost_ret (v := .bool false) (by simp [results, Try.results43, go_sem]) rfl ⟨by rw [← HR.out]; simp, hB1⟩
              · go_wp2_with fail
                with_reducible refine (i8 _).mono ?_
                rintro e w' ⟨rfl, rfl⟩
                cases b8
                · go_wp2_with fail
                  exact bodyPost_ret (v := .bool false) (by simp [results, Try.results43, go_sem]) rfl ⟨by rw [← HR.out]; simp, hB1⟩
                · go_wp2_with fail
                  with_reducible refine (i9 _).mono ?_
                  rintro e w' ⟨rfl, rfl⟩
                  cases b9
                  · go_wp2_with fail
                    exact bodyPost_ret (v := .bool false) (by simp [results, Try.results43, go_sem]) rfl ⟨by rw [← HR.out]; simp, hB1⟩
                  · go_wp2_with fail
                    with_reducible refine (i10 _).mono ?_
                    rintro e w' ⟨rfl, rfl⟩
                    cases b10
                    · go_wp2_with fail
                      exact bodyPost_ret (v := .bool false) (by simp [results, Try.results43, go_sem]) rfl ⟨by rw [← HR.out]; simp, hB1⟩
                    · go_wp2_with fail
                      with_reducible refine (i11 _).mono ?_
                      rintro e w' ⟨rfl, rfl⟩
                      cases b11
                      · go_wp2_with fail
                        exact bodyPost_ret (v := .bool false) (by simp [results, Try.results43, go_sem]) rfl ⟨by rw [← HR.out]; simp, hB1⟩
                      · go_wp2_with fail
                        with_reducible refine (i12 _).mono ?_
                        rintro e w' ⟨rfl, rfl⟩
                        cases b12
                        · go_wp2_with fail
                          exact bodyPost_ret (v := .bool false) (by simp [results, Try.results43, go_sem]) rfl ⟨by rw [← HR.out]; simp, hB1⟩
                        · go_wp2_with fail
                          with_reducible refine (i13 _).mono ?_
                          rintro e w' ⟨rfl, rfl⟩
                          cases b13
                          · go_wp2_with fail
                            exact bodyPost_ret (v := .bool false) (by simp [results, Try.results43, go_sem]) rfl ⟨by rw [← HR.out]; simp, hB1⟩
                          · go_wp2_with fail
                            with_reducible refine (i14 _).mono ?_
                            rintro e w' ⟨rfl, rfl⟩
                            cases b14
                            · go_wp2_with fail
                              exact bodyPost_ret (v := .bool false) (by simp [results, Try.results43, go_sem]) rfl ⟨by rw [← HR.out]; simp, hB1⟩
                            · go_wp2_with fail
                              with_reducible refine (i15 _).mono ?_
                              rintro e w' ⟨rfl, rfl⟩
                              cases b15
                              · go_wp2_with fail
                                exact bodyPost_ret (v := .bool false) (by simp [results, Try.results43, go_sem]) rfl ⟨by rw [← HR.out]; simp, hB1⟩
                              · go_wp2_with fail
                                exact bodyPost_ret (v := .bool true) (by simp [results, Try.results43, go_sem]) rfl ⟨by rw [← HR.out]; simp, hB1⟩
end Go.Proofs.Ytfpepiabpadjdaa
