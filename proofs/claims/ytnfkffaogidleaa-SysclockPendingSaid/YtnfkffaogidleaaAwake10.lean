/-
  The law's own examples (awake): they hold, and the call leaves what was there.
-/
import Derived.Test.YtnfkffaogidleaaClockS
set_option linter.unusedSimpArgs false
set_option linter.unusedVariables false
namespace Go.Proofs.Ytnfkffaogidleaa
open Go.RowKit
def A0 : CS := ⟨1000, 5000, 0, 0, 0, 0⟩
def A1 : CS := ⟨2000, 6000, 1000, 0, 0, 0⟩
def C0 : CS := ⟨0, 0, 0, 0, 0, 0⟩
def C1 : CS := ⟨0, 0, 0, 10, 1000, 0⟩
def C2 : CS := ⟨20000000, 19999910, 0, 0, 0, 1⟩
theorem okA0 : A0.Ok := by constructor <;> simp [A0]
theorem okA1 : A1.Ok := by constructor <;> simp [A1]
theorem okC0 : C0.Ok := by constructor <;> simp [C0]
theorem okC1 : C1.Ok := by constructor <;> simp [C1]
theorem okC2 : C2.Ok := by constructor <;> simp [C2]
theorem badL : ¬ (CS.mk 0 0 0 1 0 0).Ok := fun h => absurd (h.slews (by decide)) (by decide)
theorem n1 : nowF A0 1500 = (5500, 0) := by kernel_rfl
theorem n2 : freqF A0 2000 1000 = (A1, 0) := by kernel_rfl
theorem n3 : slewS C0 0 10 1000 = (C1, 0) := by kernel_rfl
theorem n4 : nowF A1 1002000 = (1006001, 0) := by kernel_rfl
theorem n5 : nowF C1 4500000 = (4500004, 0) := by kernel_rfl
theorem n6 : nowF C1 20000000 = (20000010, 0) := by kernel_rfl
theorem n7 : pendF C1 4500000 = 6 := by kernel_rfl
theorem n8 : stepS C1 20000000 (-100) = (C2, 0) := by kernel_rfl
theorem n9 : nowF C2 19999999 = (0, 12) := by kernel_rfl
theorem n10 : freqF C2 20000000 500001 = (C2, 3) := by kernel_rfl
set_option maxHeartbeats 4000000 in
theorem awake_any (w : World) : Calls Try.prog 15 #[] w fun x w' => x = .returned (.bool true) ∧ Below w.heap.size w w' := by
  have p1 := fun w => new_good 1000 5000 okA0 w
  have p2 := fun w => new_good 0 0 okC0 w
  have p3 := fun w => of_bad _ badL (by decide) w
  unfold CS.vals at p3
  simp only at p3
  go_enter Try.func15, Try.ntmps15
  go_wp2_with fail
  refine (p1 _).mono ?_
  rintro e w1 ⟨ba, rfl, hba, ka, hb1⟩
  have ba1 := ka.lt
  go_wp2_with fail
  refine (p2 _).mono ?_
  rintro e w2 ⟨bc, rfl, hbc, kc, hb2⟩
  have ka2 : Clk w2 ba A0 := ka.below hb2 ba1
  have kc2 : Clk w2 bc C0 := kc
  have hne : ba ≠ bc := by omega
  have hbc0 : w.heap.size ≤ bc := by have := hb1.size; omega
  have HB2 : Below w.heap.size w w2 := Below.then hb1 hb1.size hb2
  have HS2 := HB2.size
  clear ka kc hb1 hb2 ba1 hbc
  have HN := Kp.mk hne
  have H1 := Kp.mk hba
  have H2 := Kp.mk hbc0
  have HS := Kp.mk HS2
  clear hne hba hbc0 HS2
  go_wp2_with fail
  refine (p3 _).mono ?_
  rintro e w3 ⟨rfl, hb⟩
  have ka3 := ka2.below hb ka2.lt
  have kc3 := kc2.below hb kc2.lt
  have HB3 := Below.then HB2 HB2.size hb
  clear ka2 kc2 HB2 hb
  go_wp2_with fail
  have q := now_any _ A0 1500 w3 ka3 okA0 (by decide)
  rw [n1] at q
  refine (q).mono ?_
  rintro e w4 ⟨rfl, hb⟩
  have ka4 := ka3.below hb ka3.lt
  have kc4 := kc3.below hb kc3.lt
  have HB4 := Below.then HB3 HB3.size hb
  clear q ka3 kc3 HB3 hb
  go_wp2_with fail
  have q := freq_any _ A0 2000 1000 w4 ka4 okA0 (by decide)
  rw [n2] at q
  refine (q).mono ?_
  rintro e w5 ⟨rfl, ka5, ho⟩
  have kc5 := ho.clk kc4 (fun h => HN.out h.symm)
  have HB5 := HB4.trans (ho.below H1.out HB4.size)
  clear q ka4 kc4 HB4 ho
  go_wp2_with fail
  have q := slew_set _ C0 0 10 1000 w5 kc5 okC0 (by decide)
  rw [n3] at q
  refine (q).mono ?_
  rintro e w6 ⟨rfl, kc6, ho⟩
  have ka6 := ho.clk ka5 HN.out
  have HB6 := HB5.trans (ho.below H2.out HB5.size)
  clear q ka5 kc5 HB5 ho
  go_wp2_with fail
  have q := now_any _ A1 1002000 w6 ka6 okA1 (by decide)
  rw [n4] at q
  refine (q).mono ?_
  rintro e w7 ⟨rfl, hb⟩
  have ka7 := ka6.below hb ka6.lt
  have kc7 := kc6.below hb kc6.lt
  have HB7 := Below.then HB6 HB6.size hb
  clear q ka6 kc6 HB6 hb
  go_wp2_with fail
  have q := now_any _ C1 4500000 w7 kc7 okC1 (by decide)
  rw [n5] at q
  refine (q).mono ?_
  rintro e w8 ⟨rfl, hb⟩
  have ka8 := ka7.below hb ka7.lt
  have kc8 := kc7.below hb kc7.lt
  have HB8 := Below.then HB7 HB7.size hb
  clear q ka7 kc7 HB7 hb
  go_wp2_with fail
  have q := now_any _ C1 20000000 w8 kc8 okC1 (by decide)
  rw [n6] at q
  refine (q).mono ?_
  rintro e w9 ⟨rfl, hb⟩
  have ka9 := ka8.below hb ka8.lt
  have kc9 := kc8.below hb kc8.lt
  have HB9 := Below.then HB8 HB8.size hb
  clear q ka8 kc8 HB8 hb
  go_wp2_with fail
  have q := pending_any _ C1 4500000 w9 kc9 okC1 (by decide)
  rw [n7] at q
  refine (q).mono ?_
  rintro e w10 ⟨rfl, hb⟩
  have ka10 := ka9.below hb ka9.lt
  have kc10 := kc9.below hb kc9.lt
  have HB10 := Below.then HB9 HB9.size hb
  clear q ka9 kc9 HB9 hb
  go_wp2_with fail
  have q := step_any _ C1 20000000 (-100) w10 kc10 okC1 (by decide)
  rw [n8] at q
  refine (q).mono ?_
  rintro e w11 ⟨rfl, kc11, ho⟩
  have ka11 := ho.clk ka10 HN.out
  have HB11 := HB10.trans (ho.below H2.out HB10.size)
  clear q ka10 kc10 HB10 ho
  go_wp2_with fail
  have q := now_any _ C2 19999999 w11 kc11 okC2 (by decide)
  rw [n9] at q
  refine (q).mono ?_
  rintro e w12 ⟨rfl, hb⟩
  have ka12 := ka11.below hb ka11.lt
  have kc12 := kc11.below hb kc11.lt
  have HB12 := Below.then HB11 HB11.size hb
  clear q ka11 kc11 HB11 hb
  go_wp2_with fail
  have q := state_any _ C2 w12 kc12
  unfold StatePost CS.vals C2 at q
  simp only at q
  refine (q).mono ?_
  rintro e w13 ⟨rfl, hb⟩
  have ka13 := ka12.below hb ka12.lt
  have kc13 := kc12.below hb kc12.lt
  have HB13 := Below.then HB12 HB12.size hb
  clear q ka12 kc12 HB12 hb
  go_wp2_with fail
  have q := freq_any _ C2 20000000 500001 w13 kc13 okC2 (by decide)
  rw [n10] at q
  refine (q).mono ?_
  rintro e w14 ⟨rfl, kc14, ho⟩
  have ka14 := ho.clk ka13 HN.out
  have HB14 := HB13.trans (ho.below H2.out HB13.size)
  clear q ka13 kc13 HB13 ho
  go_wp2_with fail
  go_ret
  exact ⟨by simp, HB14⟩
end Go.Proofs.Ytnfkffaogidleaa
