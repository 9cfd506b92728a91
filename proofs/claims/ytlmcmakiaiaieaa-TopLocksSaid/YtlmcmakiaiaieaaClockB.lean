/-
  The contracts of package sysclock's Now and moved, over a clock in memory.
-/
import Derived.Test.YtlmcmakiaiaieaaClockA
import Derived.Test.YtlmcmakiaiaieaaQTail
set_option linter.unusedSimpArgs false
set_option linter.unusedVariables false
namespace Go.Proofs.Ytlmcmakiaiaieaa
open Go.RowKit
/-- A state of a clock. -/
structure CS where
  raw : Int
  time : Int
  ppb : Int
  left : Int
  rate : Int
  steps : Int
/-- It is valid. -/
structure CS.Ok (s : CS) : Prop where
  raw1 : -4503599627370496 ≤ s.raw
  raw2 : s.raw ≤ 4503599627370496
  time1 : -4503599627370496 ≤ s.time
  time2 : s.time ≤ 4503599627370496
  left1 : -4503599627370496 ≤ s.left
  left2 : s.left ≤ 4503599627370496
  ppb1 : -500000 ≤ s.ppb
  ppb2 : s.ppb ≤ 500000
  rate1 : 0 ≤ s.rate
  rate2 : s.rate ≤ 500000
  slews : s.left ≠ 0 → 0 < s.rate
  steps1 : 0 ≤ s.steps
  steps2 : s.steps ≤ 9223372036854775807
/-- Its fields as values. -/
def CS.vals (s : CS) : Array Value := #[.int .i64 s.raw, .int .i64 s.time, .int .i64 s.ppb, .int .i64 s.left, .int .i64 s.rate, .int .i64 s.steps]
/-- Block b is a clock in the state s. -/
structure Clk (w : World) (b : Nat) (s : CS) : Prop where
  lt : b < w.heap.size
  c0 : w.cell? ⟨b, 0, none⟩ = some (.int .i64 s.raw)
  c1 : w.cell? ⟨b, 1, none⟩ = some (.int .i64 s.time)
  c2 : w.cell? ⟨b, 2, none⟩ = some (.int .i64 s.ppb)
  c3 : w.cell? ⟨b, 3, none⟩ = some (.int .i64 s.left)
  c4 : w.cell? ⟨b, 4, none⟩ = some (.int .i64 s.rate)
  c5 : w.cell? ⟨b, 5, none⟩ = some (.int .i64 s.steps)
  f0 : w.frozen? ⟨b, 0, none⟩ = false
  f1 : w.frozen? ⟨b, 1, none⟩ = false
  f2 : w.frozen? ⟨b, 2, none⟩ = false
  f3 : w.frozen? ⟨b, 3, none⟩ = false
  f4 : w.frozen? ⟨b, 4, none⟩ = false
  f5 : w.frozen? ⟨b, 5, none⟩ = false
theorem Clk.below {w W : World} {b B : Nat} {s : CS} (h : Clk w b s) (hB : Below B w W) (hb : b < B) : Clk W b s :=
  ⟨Nat.lt_of_lt_of_le h.lt hB.size, (hB.cell hb).trans h.c0, (hB.cell hb).trans h.c1, (hB.cell hb).trans h.c2, (hB.cell hb).trans h.c3, (hB.cell hb).trans h.c4, (hB.cell hb).trans h.c5,
    (hB.frozen hb).trans h.f0, (hB.frozen hb).trans h.f1, (hB.frozen hb).trans h.f2, (hB.frozen hb).trans h.f3, (hB.frozen hb).trans h.f4, (hB.frozen hb).trans h.f5⟩
/-- What Now answers, and its error's number. -/
def nowF (s : CS) (raw : Int) : Int × Int :=
  if raw < s.raw then (0, 12) else if 4503599627370496 < raw then (0, 3) else
  if insB (shownF s.time s.ppb s.left s.rate (raw - s.raw)) = true then (shownF s.time s.ppb s.left s.rate (raw - s.raw), 0) else (0, 3)
set_option maxHeartbeats 1000000 in
theorem now_any (b : Nat) (s : CS) (raw : Int) (w : World) (hc : Clk w b s) (ok : s.Ok) (hr : raw ≤ 9223372036854775807) :
    Calls Try.prog 9 #[.pointer (some ⟨b, 0, none⟩), .int .i64 raw] w fun x w' => x = .returned (.tuple #[.int .i64 (nowF s raw).1, .int .i64 (nowF s raw).2]) ∧ Below w.heap.size w w' := by
  have c0 := hc.c0
  by_cases h1 : raw < s.raw
  · have e : nowF s raw = (0, 12) := by unfold nowF; rw [if_pos h1]
    rw [e]; clear e
    go_enter Try.func9, Try.ntmps9
    go_wp2
    go_ret2
    exact ⟨rfl, Below.refl _ _⟩
  · by_cases h2 : 4503599627370496 < raw
    · have e : nowF s raw = (0, 3) := by unfold nowF; rw [if_neg h1, if_pos h2]
      rw [e]; clear e
      go_enter Try.func9, Try.ntmps9
      go_wp2
      go_ret2
      exact ⟨rfl, Below.refl _ _⟩
    · have r1 := ok.raw1
      have r2 := ok.raw2
      have sh := shown_any b s.raw s.time s.ppb s.left s.rate s.steps (raw - s.raw) w hc.lt hc.c0 hc.c1 hc.c2 hc.c3 hc.c4 hc.c5 ok.left1 ok.left2 ok.rate1 ok.rate2 ok.slews ok.ppb1 ok.ppb2 (by omega) (by omega)
      have e : nowF s raw = if insB (shownF s.time s.ppb s.left s.rate (raw - s.raw)) = true then (shownF s.time s.ppb s.left s.rate (raw - s.raw), 0) else (0, 3) := by unfold nowF; rw [if_neg h1, if_neg h2]
      rw [e]; clear e
      obtain ⟨t, ht⟩ : ∃ t, shownF s.time s.ppb s.left s.rate (raw - s.raw) = t := ⟨_, rfl⟩
      rw [ht] at sh ⊢
      clear ht
      have ins := inside_any t
      obtain ⟨bo, hbo⟩ : ∃ bo, insB t = bo := ⟨_, rfl⟩
      rw [hbo] at ins ⊢
      clear hbo
      cases bo with
      | true =>
        go_enter Try.func9, Try.ntmps9
        go_wp2_with (first | (go_at_call 25; refine sh.mono ?_; rintro x w' ⟨rfl, hb⟩) | (go_at_call 26; refine (ins _).mono ?_; rintro x w' ⟨rfl, rfl⟩))
        go_ret2
        exact ⟨rfl, hb⟩
      | false =>
        go_enter Try.func9, Try.ntmps9
        go_wp2_with (first | (go_at_call 25; refine sh.mono ?_; rintro x w' ⟨rfl, hb⟩) | (go_at_call 26; refine (ins _).mono ?_; rintro x w' ⟨rfl, rfl⟩))
        go_ret2
        exact ⟨rfl, hb⟩
theorem now_nil (raw : Int) (w : World) : Calls Try.prog 9 #[.pointer none, .int .i64 raw] w fun x w' => x = .returned (.tuple #[.int .i64 0, .int .i64 1]) ∧ w = w' := by
  go_enter Try.func9, Try.ntmps9
  go_wp2
  go_ret2
  exact ⟨rfl, rfl⟩
/-- The state moved to a raw reading. -/
def movedF (s : CS) (raw : Int) : CS :=
  let l := wrap64 (s.left - wrap64 (sg s.left * min (sg s.left * s.left) (mdiv (raw - s.raw) s.rate 1000000000).1))
  ⟨raw, (nowF s raw).1, s.ppb, l, if l = 0 then 0 else s.rate, s.steps⟩
def MovedPost (s : CS) (err : Int) (w : World) (x : Ending) (w' : World) : Prop := x = .returned (.tuple #[.agg s.vals, .int .i64 err]) ∧ Below w.heap.size w w'
theorem Below.of_some {w W : World} (h : ∃ k, W = w.drewN k) : Below w.heap.size w W := by obtain ⟨k, rfl⟩ := h; exact Below.of_drewN _ _
theorem locf6 {w W : World} {v0 v1 v2 v3 v4 v5 : Value} {t : TypeId} (h : Below (w.alloc (.cells #[v0, v1, v2, v3, v4, v5] t)).heap.size (w.alloc (.cells #[v0, v1, v2, v3, v4, v5] t)) W) :
    (W.frozen? ⟨w.heap.size, 0, none⟩ = false ∧ W.frozen? ⟨w.heap.size, 1, none⟩ = false ∧ W.frozen? ⟨w.heap.size, 2, none⟩ = false) ∧ W.frozen? ⟨w.heap.size, 3, none⟩ = false ∧ W.frozen? ⟨w.heap.size, 4, none⟩ = false ∧ W.frozen? ⟨w.heap.size, 5, none⟩ = false := by
  refine ⟨⟨?_, ?_, ?_⟩, ?_, ?_, ?_⟩ <;> (rw [h.frozen (by simp)]; exact World.frozen?_alloc_at _ _ _ _ rfl)
theorem sg_abs {n m : Int} (h : -m ≤ n) (h2 : n ≤ m) : 0 ≤ sg n * n ∧ sg n * n ≤ m := by unfold sg; split <;> (try split) <;> omega
set_option maxHeartbeats 2000000 in
theorem moved_good (b : Nat) (s : CS) (raw t : Int) (w : World) (hc : Clk w b s) (ok : s.Ok) (hr : raw ≤ 9223372036854775807) (hn : nowF s raw = (t, 0)) :
    Calls Try.prog 36 #[.pointer (some ⟨b, 0, none⟩), .int .i64 raw] w (MovedPost (movedF s raw) 0 w) := by
  have hrr : s.raw ≤ raw ∧ raw ≤ 4503599627370496 := by
    unfold nowF at hn
    split at hn
    · simp at hn
    · split at hn
      · simp at hn
      · omega
  have nw := fun (w1 : World) (hw : Below w.heap.size w w1) => now_any b s raw w1 (hc.below hw hc.lt) ok hr
  rw [hn] at nw
  have r1 := ok.raw1
  have pt := part_any (raw - s.raw) s.rate (by omega) (by omega) (by have := ok.rate1; omega) (by have := ok.rate2; omega)
  have sn := sign_any s.left
  have hab := sg_abs ok.left1 ok.left2
  have em : movedF s raw = ⟨raw, t, s.ppb, wrap64 (s.left - wrap64 (sg s.left * min (sg s.left * s.left) (mdiv (raw - s.raw) s.rate 1000000000).1)), if wrap64 (s.left - wrap64 (sg s.left * min (sg s.left * s.left) (mdiv (raw - s.raw) s.rate 1000000000).1)) = 0 then 0 else s.rate, s.steps⟩ := by
    unfold movedF; rw [hn]
  rw [em]; clear em
  obtain ⟨k, hk⟩ : ∃ k, sg s.left = k := ⟨_, rfl⟩
  rw [hk] at sn hab ⊢
  obtain ⟨kl, hkl⟩ : ∃ x, k * s.left = x := ⟨_, rfl⟩
  rw [hkl] at hab ⊢
  have ekl : wrap64 (k * s.left) = kl := by rw [hkl]; unfold wrap64; omega
  obtain ⟨P, hP⟩ : ∃ P, (mdiv (raw - s.raw) s.rate 1000000000).1 = P := ⟨_, rfl⟩
  rw [hP] at pt ⊢
  obtain ⟨m, hm⟩ : ∃ m, min kl P = m := ⟨_, rfl⟩
  rw [hm]
  have er : wrap64 (raw - s.raw) = raw - s.raw := by unfold wrap64; have := ok.raw2; omega
  obtain ⟨d, hd⟩ : ∃ d, raw - s.raw = d := ⟨_, rfl⟩
  rw [hd] at pt er
  obtain ⟨l, hl⟩ : ∃ l, wrap64 (s.left - wrap64 (k * m)) = l := ⟨_, rfl⟩
  rw [hl]
  have hls : (l = 0 ∧ (if l = 0 then 0 else s.rate) = 0) ∨ (¬ l = 0 ∧ (if l = 0 then 0 else s.rate) = s.rate) := by
    by_cases h : l = 0
    · exact Or.inl ⟨h, if_pos h⟩
    · exact Or.inr ⟨h, if_neg h⟩
  clear hk hkl hP hrr r1 hab hr hn
  rcases hls with ⟨hl0, hri⟩ | ⟨hl0, hri⟩
  · rw [hri, hl0]
    rw [hl0] at hl
    clear hri hl0
    go_enter Try.func36, Try.ntmps36
    go_wp2_with fail
    refine (nw _ ((Below.refl _ _).alloc (Nat.le_refl _) _)).mono ?_
    rintro x2 w3 ⟨rfl, hb⟩
    have hb0 : Below w.heap.size w w3 := ((Below.refl _ _).alloc (Nat.le_refl _) _).trans (hb.mono (by simp))
    obtain ⟨_, e0, e1, e2, e3, e4, e5, _, _, _, _, _, _⟩ := hc.below hb0 hc.lt
    obtain ⟨⟨d0, d1, d2⟩, d3, d4, d5⟩ := loc6 hb
    obtain ⟨⟨g0, g1, g2⟩, g3, g4, g5⟩ := locf6 hb
    have hsz : w.heap.size + 1 ≤ w3.heap.size := by simpa using hb.size
    have HB := Kp.mk hb0
    have HC := Kp.mk hc
    clear hb hb0 hc ok nw
    obtain ⟨sraw, stime, sppb, sleft, srate, ssteps⟩ := s
    simp only at *
    have hw := Kp.mk hd
    go_wp2_with (go_at_call 39; refine (sn _).mono ?_; rintro x w' ⟨rfl, rfl⟩)
    refine wp_region_quiet_tail 18 (by kernel_rfl) (by kernel_rfl) ?_
    simp only [List.take_succ_cons, List.take_zero, List.drop_succ_cons, List.drop_zero]
    repeat (go_big_quiet_step ((go_at_call 38; exact qd (pt _))))
    refine wpQuiet_nil ?_
    intro w5 hw'
    have hb5 := Below.of_some hw'
    obtain ⟨⟨j0, j1, j2⟩, j3, j4, j5⟩ := loc6 hb5
    obtain ⟨⟨i0, i1, i2⟩, i3, i4, i5⟩ := locf6 hb5
    have hb6 : Below w3.heap.size w3 w5 := ((Below.refl _ _).alloc (Nat.le_refl _) _).trans (hb5.mono (by simp))
    have y0 := (hb6.cell (p := ⟨w.heap.size, 0, none⟩) (by simp; omega)).trans d0
    have y1 := (hb6.cell (p := ⟨w.heap.size, 1, none⟩) (by simp; omega)).trans d1
    have y2 := (hb6.cell (p := ⟨w.heap.size, 2, none⟩) (by simp; omega)).trans d2
    have y3 := (hb6.cell (p := ⟨w.heap.size, 3, none⟩) (by simp; omega)).trans d3
    have y4 := (hb6.cell (p := ⟨w.heap.size, 4, none⟩) (by simp; omega)).trans d4
    have y5 := (hb6.cell (p := ⟨w.heap.size, 5, none⟩) (by simp; omega)).trans d5
    have z0 := (hb6.frozen (p := ⟨w.heap.size, 0, none⟩) (by simp; omega)).trans g0
    have z1 := (hb6.frozen (p := ⟨w.heap.size, 1, none⟩) (by simp; omega)).trans g1
    have z2 := (hb6.frozen (p := ⟨w.heap.size, 2, none⟩) (by simp; omega)).trans g2
    have z3 := (hb6.frozen (p := ⟨w.heap.size, 3, none⟩) (by simp; omega)).trans g3
    have z4 := (hb6.frozen (p := ⟨w.heap.size, 4, none⟩) (by simp; omega)).trans g4
    have z5 := (hb6.frozen (p := ⟨w.heap.size, 5, none⟩) (by simp; omega)).trans g5
    have hsz5 : w3.heap.size + 1 ≤ w5.heap.size := by simpa using hb5.size
    have HB5 : Kp (Below w.heap.size w w5) := ⟨HB.out.trans (hb6.mono (by omega))⟩
    have hne : ¬ w.heap.size = w3.heap.size := by omega
    have hne' : ¬ w3.heap.size = w.heap.size := by omega
    have HS := Kp.mk hsz
    clear hw' hb5 hb6 pt sn ekl hm er hw hd d0 d1 d2 d3 d4 d5 g0 g1 g2 g3 g4 g5 e0 e1 e2 e3 e4 e5 HC HB hsz
    go_wp2
    refine bodyPost_ret (v := .tuple #[.agg #[.int .i64 raw, .int .i64 t, .int .i64 sppb, .int .i64 0, .int .i64 0, .int .i64 ssteps], .int .i64 0]) (by simp [results, Try.results36, go_sem, y0, y1, y2, y3, y4, y5, hne, hne', hl]) rfl ⟨rfl, ?_⟩
    have hs1 : w.heap.size ≤ w3.heap.size := by have := HS.out; omega
    refine Below.setCell ?_ (by exact Nat.le_refl _) _
    refine Below.setCell ?_ (by exact Nat.le_refl _) _
    refine Below.setCell ?_ (by exact Nat.le_refl _) _
    refine Below.setCell ?_ (by exact Nat.le_refl _) _
    refine Below.setCell ?_ (by exact Nat.le_refl _) _
    refine Below.setCell ?_ (by exact Nat.le_refl _) _
    refine Below.setCell ?_ (by exact hs1) _
    refine Below.setCell ?_ (by exact hs1) _
    refine Below.setCell ?_ (by exact hs1) _
    refine Below.setCell ?_ (by exact hs1) _
    exact HB5.out
  · rw [hri]
    clear hri
    go_enter Try.func36, Try.ntmps36
    go_wp2_with fail
    refine (nw _ ((Below.refl _ _).alloc (Nat.le_refl _) _)).mono ?_
    rintro x2 w3 ⟨rfl, hb⟩
    have hb0 : Below w.heap.size w w3 := ((Below.refl _ _).alloc (Nat.le_refl _) _).trans (hb.mono (by simp))
    obtain ⟨_, e0, e1, e2, e3, e4, e5, _, _, _, _, _, _⟩ := hc.below hb0 hc.lt
    obtain ⟨⟨d0, d1, d2⟩, d3, d4, d5⟩ := loc6 hb
    obtain ⟨⟨g0, g1, g2⟩, g3, g4, g5⟩ := locf6 hb
    have hsz : w.heap.size + 1 ≤ w3.heap.size := by simpa using hb.size
    have HB := Kp.mk hb0
    have HC := Kp.mk hc
    clear hb hb0 hc ok nw
    obtain ⟨sraw, stime, sppb, sleft, srate, ssteps⟩ := s
    simp only at *
    have hw := Kp.mk hd
    go_wp2_with (go_at_call 39; refine (sn _).mono ?_; rintro x w' ⟨rfl, rfl⟩)
    refine wp_region_quiet_tail 18 (by kernel_rfl) (by kernel_rfl) ?_
    simp only [List.take_succ_cons, List.take_zero, List.drop_succ_cons, List.drop_zero]
    repeat (go_big_quiet_step ((go_at_call 38; exact qd (pt _))))
    refine wpQuiet_nil ?_
    intro w5 hw'
    have hb5 := Below.of_some hw'
    obtain ⟨⟨j0, j1, j2⟩, j3, j4, j5⟩ := loc6 hb5
    obtain ⟨⟨i0, i1, i2⟩, i3, i4, i5⟩ := locf6 hb5
    have hb6 : Below w3.heap.size w3 w5 := ((Below.refl _ _).alloc (Nat.le_refl _) _).trans (hb5.mono (by simp))
    have y0 := (hb6.cell (p := ⟨w.heap.size, 0, none⟩) (by simp; omega)).trans d0
    have y1 := (hb6.cell (p := ⟨w.heap.size, 1, none⟩) (by simp; omega)).trans d1
    have y2 := (hb6.cell (p := ⟨w.heap.size, 2, none⟩) (by simp; omega)).trans d2
    have y3 := (hb6.cell (p := ⟨w.heap.size, 3, none⟩) (by simp; omega)).trans d3
    have y4 := (hb6.cell (p := ⟨w.heap.size, 4, none⟩) (by simp; omega)).trans d4
    have y5 := (hb6.cell (p := ⟨w.heap.size, 5, none⟩) (by simp; omega)).trans d5
    have z0 := (hb6.frozen (p := ⟨w.heap.size, 0, none⟩) (by simp; omega)).trans g0
    have z1 := (hb6.frozen (p := ⟨w.heap.size, 1, none⟩) (by simp; omega)).trans g1
    have z2 := (hb6.frozen (p := ⟨w.heap.size, 2, none⟩) (by simp; omega)).trans g2
    have z3 := (hb6.frozen (p := ⟨w.heap.size, 3, none⟩) (by simp; omega)).trans g3
    have z4 := (hb6.frozen (p := ⟨w.heap.size, 4, none⟩) (by simp; omega)).trans g4
    have z5 := (hb6.frozen (p := ⟨w.heap.size, 5, none⟩) (by simp; omega)).trans g5
    have hsz5 : w3.heap.size + 1 ≤ w5.heap.size := by simpa using hb5.size
    have HB5 : Kp (Below w.heap.size w w5) := ⟨HB.out.trans (hb6.mono (by omega))⟩
    have hne : ¬ w.heap.size = w3.heap.size := by omega
    have hne' : ¬ w3.heap.size = w.heap.size := by omega
    have HS := Kp.mk hsz
    clear hw' hb5 hb6 pt sn ekl hm er hw hd d0 d1 d2 d3 d4 d5 g0 g1 g2 g3 g4 g5 e0 e1 e2 e3 e4 e5 HC HB hsz
    go_wp2
    refine bodyPost_ret (v := .tuple #[.agg #[.int .i64 raw, .int .i64 t, .int .i64 sppb, .int .i64 l, .int .i64 srate, .int .i64 ssteps], .int .i64 0]) (by simp [results, Try.results36, go_sem, y0, y1, y2, y3, y4, y5, hne, hne', hl]) rfl ⟨rfl, ?_⟩
    have hs1 : w.heap.size ≤ w3.heap.size := by have := HS.out; omega
    refine Below.setCell ?_ (by exact Nat.le_refl _) _
    refine Below.setCell ?_ (by exact Nat.le_refl _) _
    refine Below.setCell ?_ (by exact Nat.le_refl _) _
    refine Below.setCell ?_ (by exact Nat.le_refl _) _
    refine Below.setCell ?_ (by exact Nat.le_refl _) _
    refine Below.setCell ?_ (by exact Nat.le_refl _) _
    refine Below.setCell ?_ (by exact hs1) _
    refine Below.setCell ?_ (by exact hs1) _
    refine Below.setCell ?_ (by exact hs1) _
    exact HB5.out
end Go.Proofs.Ytlmcmakiaiaieaa
