/-
  ResidenceOneStep's walk.
-/
import Derived.Test.YtfpepiabpadjdaaResL
set_option linter.unusedSimpArgs false
set_option linter.unusedVariables false
namespace Go.Proofs.Ytfpepiabpadjdaa
open Go.RowKit Go.Maps
def SP (clock seq sync : Int) : PM := { PM.zero with flags := 512, corr := sync, clock := clock, port := 1, seq := seq }
def FP (clock seq follow : Int) : PM := { PM.zero with kind := 8, corr := follow, clock := clock, port := 1, seq := seq }
theorem okS (c s y : Int) (h : 0 ≤ s ∧ s ≤ 65535) : okP (SP c s y) = true := by
  have e : inB s 0 65535 = true := by simp [inB]; omega
  have e2 : ∀ b : Bool, b = true → (sizeF (SP c s y).kind != 0 && ((((((((((((((inB (SP c s y).domain 0 255 && inB (SP c s y).flags 0 65535) && inB (SP c s y).port 0 65535) && b) && inB (SP c s y).logint (-128) 127) && stampB (SP c s y).sec (SP c s y).nano) && inB (SP c s y).reqport 0 65535) && inB (SP c s y).utc (-32768) 32767) && inB (SP c s y).p1 0 255) && inB (SP c s y).cls 0 255) && inB (SP c s y).acc 0 255) && inB (SP c s y).vr 0 65535) && inB (SP c s y).p2 0 255) && inB (SP c s y).steps 0 65535) && inB (SP c s y).src 0 255) && formB (SP c s y)) = true := by
    rintro _ rfl
    kernel_rfl
  exact e2 _ e
theorem okF (c s y : Int) (h : 0 ≤ s ∧ s ≤ 65535) : okP (FP c s y) = true := by
  have e : inB s 0 65535 = true := by simp [inB]; omega
  have e2 : ∀ b : Bool, b = true → (sizeF (FP c s y).kind != 0 && ((((((((((((((inB (FP c s y).domain 0 255 && inB (FP c s y).flags 0 65535) && inB (FP c s y).port 0 65535) && b) && inB (FP c s y).logint (-128) 127) && stampB (FP c s y).sec (FP c s y).nano) && inB (FP c s y).reqport 0 65535) && inB (FP c s y).utc (-32768) 32767) && inB (FP c s y).p1 0 255) && inB (FP c s y).cls 0 255) && inB (FP c s y).acc 0 255) && inB (FP c s y).vr 0 65535) && inB (FP c s y).p2 0 255) && inB (FP c s y).steps 0 65535) && inB (FP c s y).src 0 255) && formB (FP c s y)) = true := by
    rintro _ rfl
    kernel_rfl
  exact e2 _ e
theorem corrF_ok {p : PM} {t : Int} (h1 : -2147483648 ≤ p.corr) (h2 : p.corr ≤ 2147483647) (h3 : 0 ≤ t) (h4 : t ≤ 4294967295) : corrF p t = ({ p with corr := p.corr + t * 65536 }, 0) := by
  have e1 : unitsF t = (t * 65536, true) := by unfold unitsF; rw [if_pos (by omega)]
  have e2 : addF p.corr (t * 65536) = (p.corr + t * 65536, true) := by unfold addF; rw [if_pos (by omega)]
  unfold corrF
  rw [e1, e2]
  rfl
section
variable (c s sync follow stay : Int)
def D1 : DataW Unit := DE.put (keyL 8 (SP c s sync)) (.lit (.int .i64 stay))
def D2 : DataW Unit := (D1 c s sync stay).del (keyL 8 (SP c s sync))
def OneP : PM := { SP c s sync with corr := sync + stay * 65536 }
def TwoP : PM := { FP c s follow with corr := follow + stay * 65536 }
variable {c s sync follow stay}
theorem pwS (hc : 0 ≤ c ∧ c ≤ 18446744073709551615) (hs : 0 ≤ s ∧ s ≤ 65535) : PWf (SP c s sync) := ⟨(show (Lit.int .i64 0).wf = true by decide), (by
  have a : IntKind.u64.min = 0 := by decide
  have b : IntKind.u64.max = 18446744073709551615 := by decide
  show (Lit.int .u64 c).wf = true
  simp [Lit.wf]; omega), (show (Lit.int .i64 1).wf = true by decide), WalkArith.wf_i64 (by show -9223372036854775808 ≤ s ∧ s ≤ 9223372036854775807; omega)⟩
theorem pwF (hc : 0 ≤ c ∧ c ≤ 18446744073709551615) (hs : 0 ≤ s ∧ s ≤ 65535) : PWf (FP c s follow) := ⟨(pwS (sync := 0) hc hs).1, (pwS (sync := 0) hc hs).2, (pwS (sync := 0) hc hs).3, (pwS (sync := 0) hc hs).4⟩
theorem o1 (hs : 0 ≤ s ∧ s ≤ 65535) (hy : -2147483648 ≤ sync ∧ sync ≤ 2147483647) (ht : 0 ≤ stay ∧ stay ≤ 4294967295) : addPF (SP c s sync) stay 0 = (OneP c s sync stay, 0) := by
  unfold addPF
  have e : inB stay 0 1125899906842624 = true := by simp [inB]; omega
  rw [okS _ _ _ hs, e, Int.add_zero, corrF_ok (p := SP c s sync) (by exact hy.1) (by exact hy.2) ht.1 ht.2]
  rfl
theorem o2 (hs : 0 ≤ s ∧ s ≤ 65535) (ht : 0 ≤ stay ∧ stay ≤ 4294967295) : holdE DE 2 (SP c s sync) stay = 0 := by
  unfold holdE
  have e : inB stay 0 1125899906842624 = true := by simp [inB]; omega
  rw [okS _ _ _ hs, e]
  have h1 : followF (SP c s sync).kind = 8 := rfl
  have h2 : bits .and .i64 (SP c s sync).flags 512 = 512 := by kernel_rfl
  have h3 : Maps.has DE (keyL 8 (SP c s sync)) = false := rfl
  have h4 : Maps.size DE = 0 := rfl
  rw [h1, h2, h3, h4]
  rfl
theorem o2' (hs : 0 ≤ s ∧ s ≤ 65535) (ht : 0 ≤ stay ∧ stay ≤ 4294967295) : holdD DE 2 (SP c s sync) stay = D1 c s sync stay := by unfold holdD; rw [o2 hs ht, if_pos rfl]; rfl
theorem o3 (hc : 0 ≤ c ∧ c ≤ 18446744073709551615) (hs : 0 ≤ s ∧ s ≤ 65535) : Maps.has (D1 c s sync stay) (keyL 8 (SP c s sync)) = true := has_put_same isMap_empty (isKey (by decide) (pwS hc hs)) _
theorem o4 (hc : 0 ≤ c ∧ c ≤ 18446744073709551615) (hs : 0 ≤ s ∧ s ≤ 65535) : holdE (D1 c s sync stay) 2 (SP c s sync) 0 = 10 := by
  unfold holdE
  rw [okS _ _ _ hs, show followF (SP c s sync).kind = 8 from rfl, o3 hc hs]
  kernel_rfl
theorem o4' (hc : 0 ≤ c ∧ c ≤ 18446744073709551615) (hs : 0 ≤ s ∧ s ≤ 65535) : holdD (D1 c s sync stay) 2 (SP c s sync) 0 = D1 c s sync stay := by unfold holdD; rw [o4 hc hs, if_neg (by decide)]
theorem o5 (hc : 0 ≤ c ∧ c ≤ 18446744073709551615) (hs : 0 ≤ s ∧ s ≤ 65535) : stayAt (D1 c s sync stay) (FP c s follow) = stay := by
  have h : (D1 c s sync stay).atKey (keyL 8 (SP c s sync)) (.lit (.int .i64 0)) = .lit (.int .i64 stay) := atKey_put_same isMap_empty (isKey (by decide) (pwS hc hs)) _ _
  show litI ((D1 c s sync stay).atKey (keyL 8 (SP c s sync)) (.lit (.int .i64 0))) = stay
  rw [h]; rfl
theorem o6 (hc : 0 ≤ c ∧ c ≤ 18446744073709551615) (hs : 0 ≤ s ∧ s ≤ 65535) (hf : -2147483648 ≤ follow ∧ follow ≤ 2147483647) (ht : 0 ≤ stay ∧ stay ≤ 4294967295) : relF (D1 c s sync stay) (FP c s follow) = (TwoP c s follow stay, 0) := by
  unfold relF
  rw [okF _ _ _ hs, show Maps.has (D1 c s sync stay) (keyL (FP c s follow).kind (FP c s follow)) = true from o3 hc hs, o5 hc hs, corrF_ok (p := FP c s follow) (by exact hf.1) (by exact hf.2) ht.1 ht.2]
  rfl
theorem o6' (hc : 0 ≤ c ∧ c ≤ 18446744073709551615) (hs : 0 ≤ s ∧ s ≤ 65535) (hf : -2147483648 ≤ follow ∧ follow ≤ 2147483647) (ht : 0 ≤ stay ∧ stay ≤ 4294967295) : relD (D1 c s sync stay) (FP c s follow) = D2 c s sync stay := by unfold relD; rw [o6 hc hs hf ht]; rfl
theorem o7 (hs : 0 ≤ s ∧ s ≤ 65535) : Maps.has (D2 c s sync stay) (keyL 8 (SP c s sync)) = false := has_del_same
theorem o8 (hs : 0 ≤ s ∧ s ≤ 65535) : relF (D2 c s sync stay) (FP c s follow) = (QZ, 11) := by
  unfold relF
  rw [okF _ _ _ hs, show Maps.has (D2 c s sync stay) (keyL (FP c s follow).kind (FP c s follow)) = false from o7 hs]
  rfl
theorem o8' (hs : 0 ≤ s ∧ s ≤ 65535) : relD (D2 c s sync stay) (FP c s follow) = D2 c s sync stay := by unfold relD; rw [o8 hs]; rfl
theorem o9 (hc : 0 ≤ c ∧ c ≤ 18446744073709551615) (hs : 0 ≤ s ∧ s ≤ 65535) : Maps.size (D2 c s sync stay) = 0 := by
  have h := size_del (D := D1 c s sync stay) (k := keyL 8 (SP c s sync)) (Tidy.put ⟨[], rfl, List.Pairwise.nil⟩ (isKey (by decide) (pwS hc hs)) _)
  rw [o3 hc hs, D1, size_put (D := DE) ⟨[], rfl, List.Pairwise.nil⟩] at h
  simp only [if_true] at h
  have e : Maps.size DE = 0 := rfl
  rw [e] at h
  have e2 : (if Maps.has DE (keyL 8 (SP c s sync)) = true then 0 else 0 + 1) = 1 := rfl
  rw [e2] at h
  show Maps.size ((DE.put (keyL 8 (SP c s sync)) (.lit (.int .i64 stay))).del (keyL 8 (SP c s sync))) = 0
  omega
end
end Go.Proofs.Ytfpepiabpadjdaa
