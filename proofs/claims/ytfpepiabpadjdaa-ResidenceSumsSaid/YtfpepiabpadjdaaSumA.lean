/-
  The contract of slices.Clone on a path.
-/
import Derived.Test.YtfpepiabpadjdaaPathA
import Derived.Deep.AppendSrc
import Derived.WalkSpells
set_option linter.unusedSimpArgs false
set_option linter.unusedVariables false
namespace Go.Proofs.Ytfpepiabpadjdaa
open Go.RowKit
/-- 'append' at the operation, by what it runs to. -/
theorem wpList_append_run {P : Program} {w : World} {ops : Array Oper} {rest : List Oper} {o : Oper} {a : Act} {Q : Exit → Act → World → Prop} (hg : o.guard = none) (s x : Operand) (t tx : TypeId) (hop : o.op = Op.call { callee := Callee.builtin Builtin.append, args := #[s, x], argTypes := #[t, tx] })
    (sv xv : Value) (hs : a.eval s = sv) (hx : a.eval x = xv) (v : Value) (w' : World) (hrun : (Builtin.append_ #[t, tx] o.type #[sv, xv]).run P w = .ok v w') (h : wpList P ops Q rest (a.put o.dst v) w') : wpList P ops Q (o :: rest) a w := by
  refine wpList_plain hg fun K' hK' => ?_
  unfold Oper.wp
  simp [execOp, hop, resolve, invoke, builtin, hs, hx, hrun, Result.andThen]
  exact hK' _ _ h
def fieldOf (T A O Q : Nat → Int) (j : Nat) : Int := if j % 4 = 0 then T (j / 4) else if j % 4 = 1 then A (j / 4) else if j % 4 = 2 then O (j / 4) else Q (j / 4)
def cellsOf4 (n : Nat) (T A O Q : Nat → Int) : List Value := (List.range (n * 4)).map fun j => .int .i64 (fieldOf T A O Q j)
theorem cellsOf4_length (n : Nat) (T A O Q : Nat → Int) : (cellsOf4 n T A O Q).length = n * 4 := by simp [cellsOf4]
theorem cellsOf4_get {n : Nat} {T A O Q : Nat → Int} {j : Nat} (h : j < n * 4) : (cellsOf4 n T A O Q)[j]? = some (.int .i64 (fieldOf T A O Q j)) := by
  unfold cellsOf4
  simp [List.getElem?_map, List.getElem?_range h]
theorem steprow_cells {w : World} {b off : Nat} {n : Nat} {T A O Q : Nat → Int} (h : St.StepRow w (some ⟨b, off, none⟩) n T A O Q) {j : Nat} (hj : j < n * 4) : w.cell? ⟨b, off + j, none⟩ = some (.int .i64 (fieldOf T A O Q j)) := by
  obtain ⟨b', off', e, hb, ⟨h0, _⟩, ⟨h1, _⟩, ⟨h2, _⟩, h3, _⟩ := h.2 (j / 4) (by omega)
  simp at e
  obtain ⟨rfl, rfl⟩ := e
  have hm : j % 4 = 0 ∨ j % 4 = 1 ∨ j % 4 = 2 ∨ j % 4 = 3 := by omega
  unfold fieldOf
  rcases hm with hm | hm | hm | hm
  · rw [if_pos hm, ← h0]; congr 2; omega
  · rw [if_neg (by omega), if_pos hm, ← h1]; congr 2; omega
  · rw [if_neg (by omega), if_neg (by omega), if_pos hm, ← h2]; congr 2; omega
  · rw [if_neg (by omega), if_neg (by omega), if_neg (by omega), ← h3]; congr 2; omega
/-- A path in a block of the call's own. -/
structure Owned (w : World) (b n : Nat) (T A O Q : Nat → Int) : Prop where
  row : St.StepRow w (some ⟨b, 0, none⟩) n T A O Q
  there : w.there b 0 (n * 4)
  lt : b < w.heap.size
theorem info63 : ∃ i : TypeInfo, Try.prog.info? 63 = some i ∧ i.zero = some (.agg #[.int .i64 0, .int .i64 0, .int .i64 0, .int .i64 0]) ∧ i.size = 4 ∧ i.bytes = 32 := by
  have h : (Try.prog.info? 63).map (fun i => (i.zero, i.size, i.bytes)) = some (some (.agg #[.int .i64 0, .int .i64 0, .int .i64 0, .int .i64 0]), 4, 32) := by kernel_rfl
  cases hi : Try.prog.info? 63 with
  | none => rw [hi] at h; cases h
  | some i =>
    rw [hi] at h
    simp at h
    exact ⟨i, rfl, h.1, h.2.1, h.2.2⟩
set_option maxRecDepth 20000 in
theorem clone_nil (w : World) : Calls Try.prog 27 #[.slice none 0 0] w fun x w' => x = .returned (.slice none 0 0) ∧ w = w' := by
  have heq := fun w => Lib.run_eql_slice_nil (P := Try.prog) w 58 63 none 0 0 0 0 Try.underlying58
  go_enter Try.func27, Try.ntmps27
  go_upto_region 3 with fail
  go_ret
  exact ⟨rfl, rfl⟩
set_option maxRecDepth 20000 in
set_option maxHeartbeats 2000000 in
theorem clone_any (b off n cap : Nat) (hn : n ≤ 100) (T A O Q : Nat → Int) (w : World) (hs : St.StepRow w (some ⟨b, off, none⟩) n T A O Q) :
    Calls Try.prog 27 #[.slice (some ⟨b, off, none⟩) n cap] w fun x w' => ∃ b' cap', x = .returned (.slice (some ⟨b', 0, none⟩) n cap') ∧ w.heap.size ≤ b' ∧ Owned w' b' n T A O Q ∧ Below w.heap.size w w' := by
  obtain ⟨i, hi, hz, hsz, hby⟩ := info63
  have heq := fun w => Lib.run_eql_slice_nil (P := Try.prog) w 58 63 (some ⟨b, off, none⟩) n cap 0 0 Try.underlying58
  go_enter Try.func27, Try.ntmps27
  go_upto_region 3 with fail
  iterate 7 go_step
  obtain ⟨W1, hW1⟩ : ∃ W, W = w.alloc (.cells #[] 63) := ⟨_, rfl⟩
  rw [← hW1]
  have hX : Below w.heap.size w W1 := by rw [hW1]; exact (Below.refl _ _).alloc (Nat.le_refl _) _
  have hz1 : W1.heap.size = w.heap.size + 1 := by rw [hW1, World.size_alloc]
  have hb : n = 0 ∨ b < w.heap.size := by
    rcases Nat.eq_zero_or_pos n with h | h
    · exact .inl h
    · obtain ⟨b', off', e, hb, _⟩ := hs.2 0 h
      simp at e
      exact .inr (by omega)
  have hcell : ∀ j, j < n * 4 → W1.cell? ⟨b, off + j, none⟩ = some (.int .i64 (fieldOf T A O Q j)) := fun j hj => by
    rcases hb with h | h
    · omega
    · exact (hX.cell (p := ⟨b, off + j, none⟩) h).trans (steprow_cells hs hj)
  have hsrc : Src Try.prog i.size 58 (.slice (some ⟨b, off, none⟩) n cap) n (cellsOf4 n T A O Q) W1 := by
    refine Src.ofSlice W1 Try.underlying58 ⟨b, off, none⟩ n cap _ (by rw [hsz, cellsOf4_length]) ?_ ?_
    · intro j u hu
      have hj : j < n * 4 := by
        have := (List.getElem?_eq_some_iff.1 hu).1
        rwa [cellsOf4_length] at this
      rw [cellsOf4_get hj] at hu
      rw [Addr.add_mid, hcell j hj]
      exact hu
    · intro u hu
      obtain ⟨j, _, rfl⟩ := List.mem_map.1 hu
      rfl
  have hI : ∀ k, k < n → St.I64 (T k) ∧ St.I64 (A k) ∧ St.I64 (O k) ∧ St.I64 (Q k) := fun k hk => by
    obtain ⟨_, _, _, _, ⟨_, g0⟩, ⟨_, g1⟩, ⟨_, g2⟩, _, g3⟩ := hs.2 k hk
    exact ⟨g0, g1, g2, g3⟩
  rcases Nat.eq_zero_or_pos n with h0 | hpos
  · subst h0
    have hrun := fun ty => run_append_room_src W1 58 58 ty 63 i Try.underlying58 hi w.heap.size 0 0 0 (.slice (some ⟨b, off, none⟩) 0 cap) 0 (cellsOf4 0 T A O Q) hsrc (by omega) (fun j hj => by rw [cellsOf4_length] at hj; omega) (fun j hj => by rw [cellsOf4_length] at hj; omega)
    refine wpList_append_run rfl _ _ _ _ rfl _ _ rfl rfl _ _ (hrun _) ?_
    have hO : Owned W1 w.heap.size 0 T A O Q := ⟨⟨by omega, fun i hi => absurd hi (by omega)⟩, fun j hj => absurd hj (by omega), by omega⟩
    have HK := Kp.mk (And.intro hO hX)
    clear hrun hsrc hcell hI hs hO hX hb heq
    go_frame
    show wpList _ _ _ _ _ W1
    go_wp2_with fail
    exact bodyPost_ret (v := .slice (some ⟨w.heap.size, 0, none⟩) 0 0) (by simp [results, Try.results27, go_sem]) rfl ⟨w.heap.size, 0, rfl, Nat.le_refl _, HK.out.1, HK.out.2⟩
  · have hrun := fun ty => run_append_grow_src W1 58 58 ty 63 i _ Try.underlying58 hi hz (some ⟨w.heap.size, 0, none⟩) 0 0 [] (run_firstCells_some W1.drew i.size 0 _ 0 0 [] (by simp) (fun j v h => by simp at h)) (.slice (some ⟨b, off, none⟩) n cap) n (cellsOf4 n T A O Q) hsrc (by omega) (by omega) (by rw [Nat.zero_add, nextslicecap_zero hpos, hby]; omega)
    refine wpList_append_run rfl _ _ _ _ rfl _ _ rfl rfl _ _ (hrun _) ?_
    clear hrun hsrc
    generalize grownCap W1 (0 + n) 0 63 = gc
    obtain ⟨zs, hzs⟩ : ∃ zs : Array Value, zs = ([] ++ cellsOf4 n T A O Q).toArray ++ Builtin.zeroCells (Value.agg #[.int .i64 0, .int .i64 0, .int .i64 0, .int .i64 0]).cells (gc - (0 + n)) := ⟨_, rfl⟩
    rw [← hzs]
    have hget : ∀ j, j < n * 4 → zs[j]? = some (.int .i64 (fieldOf T A O Q j)) := fun j hj => by
      rw [hzs, List.nil_append, Array.getElem?_append_left (by simpa [cellsOf4_length] using hj)]
      simpa using cellsOf4_get hj
    have hsize : n * 4 ≤ zs.size := by rw [hzs]; simp [cellsOf4_length]
    clear hzs
    obtain ⟨W2, hW2⟩ : ∃ W, W = W1.drew.alloc (.cells zs 63) := ⟨_, rfl⟩
    rw [← hW2]
    have hc2 : ∀ j, j < n * 4 → W2.cell? ⟨W1.heap.size, j, none⟩ = some (.int .i64 (fieldOf T A O Q j)) := fun j hj => by
      have h1 := World.cell?_alloc_at (w := W1.drew) zs 63 W1.heap.size j rfl
      rw [hW2, h1]
      exact hget j hj
    have hlt2 : W1.heap.size < W2.heap.size := by rw [hW2, World.size_alloc]; exact Nat.lt_succ_self _
    have hO : Owned W2 W1.heap.size n T A O Q := by
      refine ⟨⟨by omega, fun k hk => ⟨W1.heap.size, 0, rfl, hlt2, ⟨?_, (hI k hk).1⟩, ⟨?_, (hI k hk).2.1⟩, ⟨?_, (hI k hk).2.2.1⟩, ?_, (hI k hk).2.2.2⟩⟩, fun j hj => ⟨?_, ?_⟩, hlt2⟩
      · have := hc2 (k * 4) (by omega)
        rw [show (0 + k * 4) = k * 4 by omega, this]
        have e1 : k * 4 % 4 = 0 := by omega
        have e2 : k * 4 / 4 = k := by omega
        simp [fieldOf, e1, e2]
      · have := hc2 (k * 4 + 1) (by omega)
        rw [show (0 + k * 4 + 1) = k * 4 + 1 by omega, this]
        have e1 : (k * 4 + 1) % 4 = 1 := by omega
        have e2 : (k * 4 + 1) / 4 = k := by omega
        simp [fieldOf, e1, e2]
      · have := hc2 (k * 4 + 2) (by omega)
        rw [show (0 + k * 4 + 2) = k * 4 + 2 by omega, this]
        have e1 : (k * 4 + 2) % 4 = 2 := by omega
        have e2 : (k * 4 + 2) / 4 = k := by omega
        simp [fieldOf, e1, e2]
      · have := hc2 (k * 4 + 3) (by omega)
        rw [show (0 + k * 4 + 3) = k * 4 + 3 by omega, this]
        have e1 : (k * 4 + 3) % 4 = 3 := by omega
        have e2 : (k * 4 + 3) / 4 = k := by omega
        simp [fieldOf, e1, e2]
      · rw [show (0 + j) = j by omega, hc2 j hj]; rfl
      · rw [hW2]; exact World.frozen?_alloc_at _ _ _ _ rfl
    have hB2 : Below w.heap.size w W2 := by rw [hW2]; exact (hX.drew).alloc hX.size _
    have HK := Kp.mk (And.intro hO hB2)
    have hle : w.heap.size ≤ W1.heap.size := hX.size
    clear hO hB2 hc2 hget hsize hW2 hI hs hX hb heq hcell
    go_frame
    go_wp2_with fail
    exact bodyPost_ret (v := .slice (some ⟨W1.heap.size, 0, none⟩) (0 + n) gc) (by simp [results, Try.results27, go_sem]) rfl ⟨W1.heap.size, gc, by rw [Nat.zero_add], hle, HK.out.1, HK.out.2⟩
end Go.Proofs.Ytfpepiabpadjdaa
