/-
  The states of a loop, what an update makes of one, and the contracts of large and small as one.
-/
import Derived.Test.YtbfobodaeimklaaDoorPllD
set_option linter.unusedSimpArgs false
set_option linter.unusedVariables false
namespace Go.Proofs.YtbfobodaeimklaaDoor
open Go.RowKit
/-- A state that a loop can be in. -/
structure LS.Ok (s : LS) : Prop where
  mn1 : 3 ≤ s.mn
  mnx : s.mn ≤ s.mx
  mx2 : s.mx ≤ 17
  sa1 : 1 ≤ s.sa
  sa2 : s.sa ≤ 1125899906842624
  so1 : 1 ≤ s.so
  so2 : s.so ≤ 100000
  li1 : 1 ≤ s.li
  li2 : s.li ≤ 500000
  st1 : 0 ≤ s.st
  st2 : s.st ≤ 3
  fr1 : -s.li ≤ s.fr
  fr2 : s.fr ≤ s.li
  ph1 : -s.sa < s.ph
  ph2 : s.ph < s.sa
  la1 : 0 ≤ s.la
  la2 : s.la ≤ 1073741824
  po1 : s.mn ≤ s.po
  po2 : s.po ≤ s.mx
  sp1 : 0 ≤ s.sp
  sp2 : s.sp ≤ s.la
  new : s.up = false → s.st = 0 ∧ s.sp = 0
def largeF (s : LS) (t o mu : Int) : LS × Int × Int :=
  if s.st = 0 then ({ s with st := 1, ph := 0 }, 2, o) else
  if s.st = 1 then ({ s with st := 3, ph := 0, fr := clampF (s.fr + o / mu) (-s.li) s.li }, 2, o) else
  if s.st = 3 then ({ s with st := 2, sp := t }, 0, 0) else
  if t - s.sp < s.so then (s, 0, 0) else ({ s with st := 3, ph := 0 }, 2, o)
def smallF (s : LS) (o mu poll : Int) : LS :=
  if s.st = 0 then { s with st := 1, ph := o } else
  if s.st = 1 then { s with st := 3, ph := o, fr := clampF (s.fr + o / mu) (-s.li) s.li } else
  { s with st := 3, ph := o, fr := clampF (s.fr + corr s.ph o mu poll) (-s.li) s.li }
/-- What an update makes of a state, its action and its error. -/
def updF (s : LS) (t o p : Int) : LS × (Int × Int) × Int :=
  if ((inB t 0 1073741824 && inB o (-1125899906842624) 1125899906842624) && inB p s.mn s.mx) = false then (s, (0, 0), 3) else
  if s.up = true ∧ t ≤ s.la then (s, (0, 0), 12) else
  if s.st = 1 ∧ (if s.up = true then t - s.la else 0) < s.so then (s, (0, 0), 0) else
  if s.sa ≤ max o (-o) then ({ (largeF s t o (if s.up = true then t - s.la else 0)).1 with la := t, po := p, up := true }, (largeF s t o (if s.up = true then t - s.la else 0)).2, 0) else
  ({ smallF s o (if s.up = true then t - s.la else 0) p with la := t, po := p, up := true }, (1, (smallF s o (if s.up = true then t - s.la else 0) p).fr), 0)
theorem large_any (b : Nat) (s : LS) (t o mu : Int) (w : World) (h : Lp w b s) (ok : s.Ok) (hm : s.st = 1 → 1 ≤ mu) (ht : s.sp ≤ t) (ht2 : t ≤ 1073741824) (ho : -1125899906842624 ≤ o) (ho2 : o ≤ 1125899906842624) :
    Calls Tryd.prog 27 #[.pointer (some ⟨b, 0, none⟩), .int .i64 t, .int .i64 o, .int .i64 mu] w (LPost b (largeF s t o mu).1 (act (largeF s t o mu).2.1 (largeF s t o mu).2.2) w) := by
  have h1 := ok.so1
  have h2 := ok.so2
  have h3 := ok.st1
  have h4 := ok.st2
  have h5 := ok.sp1
  unfold largeF
  split
  · exact large_unset b s t o mu w h (by assumption)
  · split
    · rename_i e
      exact large_freq b s t o mu w h e (hm e) ho ho2 ok.li1 ok.li2 ok.fr1 ok.fr2
    · split
      · exact large_sync b s t o mu w h (by assumption) h1
      · split
        · exact large_spike b s t o mu w h (by omega) (by omega) (by assumption) h2
        · exact large_due b s t o mu w h (by omega) (by omega) (by omega) h1
theorem small_any (b : Nat) (s : LS) (o mu poll : Int) (w : World) (h : Lp w b s) (ok : s.Ok) (hm : s.st ≠ 0 → 1 ≤ mu) (hm2 : mu ≤ 1073741824) (hp : 3 ≤ poll) (hp2 : poll ≤ 17) (ho : -1125899906842624 ≤ o) (ho2 : o ≤ 1125899906842624) :
    Calls Tryd.prog 28 #[.pointer (some ⟨b, 0, none⟩), .int .i64 o, .int .i64 mu, .int .i64 poll] w (LPost b (smallF s o mu poll) (.tuple #[]) w) := by
  have h1 := ok.ph1
  have h2 := ok.ph2
  have h3 := ok.sa2
  unfold smallF
  split
  · exact small_unset b s o mu poll w h (by assumption)
  · rename_i e0
    split
    · rename_i e
      exact small_freq b s o mu poll w h e (hm e0) ho ho2 ok.li1 ok.li2 ok.fr1 ok.fr2
    · rename_i e
      by_cases hf : poll < 11
      · exact small_near b s o mu poll w h e0 e (hm e0) hm2 hp hp2 hf ho ho2 (by omega) (by omega) ok.li1 ok.li2 ok.fr1 ok.fr2
      · exact small_far b s o mu poll w h e0 e (hm e0) hm2 hp hp2 (by omega) ho ho2 (by omega) (by omega) ok.li1 ok.li2 ok.fr1 ok.fr2
theorem clampF_in {n li : Int} (h : 1 ≤ li) : -li ≤ clampF n (-li) li ∧ clampF n (-li) li ≤ li := by unfold clampF; split <;> (try split) <;> omega
theorem inB_iff {n lo hi : Int} : inB n lo hi = true ↔ lo ≤ n ∧ n ≤ hi := by unfold inB; simp
end Go.Proofs.YtbfobodaeimklaaDoor
