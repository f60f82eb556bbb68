/- A log in a calm disk: what an Append does. No program. -/
import Derived.Test.YtdlpaojkkekdlaaDsk
namespace Go.GL
set_option linter.unusedVariables false
theorem CalmD.full {s : Ds} {g : Lg} {x : List UInt8} {z : RdX} (h : CalmD s) (hf : there g.f) (hd : g.dn = false) (hx : ¬ (65536 : Int) < x.length) (hr : (s.room : Int) - used s.fs < (lgFr g x).length) : lgE s g x z = 21 ∧ lgS s g x z = s ∧ lgG s g x z = g := by
  have h1 : ¬ s.off = true := by rw [h.off]; simp
  have h2 : ¬ g.dn = true := by rw [hd]; simp
  have ha : appE s g.f (lgFr g x) = 21 := by unfold appE; rw [if_neg (show ¬ ¬ there g.f from fun e => e hf), if_neg h1, if_pos hr]
  obtain ⟨e1, e2, e3⟩ := lgE_app (z := z) hx h2 (show appE s g.f (lgFr g x) ≠ 0 by rw [ha]; decide)
  refine ⟨by rw [e1, ha], ?_, ?_⟩
  · rw [e2]; unfold appS; rw [if_neg (show ¬ ¬ there g.f from fun e => e hf), if_neg h1, if_pos hr]
  · rw [e3, ha]
    obtain ⟨f, n, dn⟩ := g
    simp only at hd
    subst hd
    rfl
theorem CalmD.fits {s : Ds} {g : Lg} {x : List UInt8} {z : RdX} (h : CalmD s) (hf : there g.f) (hd : g.dn = false) (hx : ¬ (65536 : Int) < x.length) (hr : ¬ (s.room : Int) - used s.fs < (lgFr g x).length) : lgE s g x z = 0 ∧ lgS s g x z = { s with fs := hard (setF s.fs g.f (appF s g.f (lgFr g x) z)) } ∧ lgG s g x z = { g with n := g.n + 1 } := by
  have h1 : ¬ s.off = true := by rw [h.off]; simp
  have h2 : ¬ g.dn = true := by rw [hd]; simp
  have ha : appE s g.f (lgFr g x) = 0 := by unfold appE; rw [if_neg (show ¬ ¬ there g.f from fun e => e hf), if_neg h1, if_neg hr, if_pos h.step.2]
  have hs : appS s g.f (lgFr g x) z = { s with fs := setF s.fs g.f (appF s g.f (lgFr g x) z) } := by
    unfold appS
    rw [if_neg (show ¬ ¬ there g.f from fun e => e hf), if_neg h1, if_neg hr]
    exact (CalmD.step (s := { s with fs := setF s.fs g.f (appF s g.f (lgFr g x) z) }) ⟨h.off, h.armed⟩).1
  have hc : CalmD (appS s g.f (lgFr g x) z) := by rw [hs]; exact ⟨h.off, h.armed⟩
  obtain ⟨e1, e2, e3⟩ := lgE_sync (z := z) hx h2 (show ¬ appE s g.f (lgFr g x) ≠ 0 by rw [ha]; simp)
  refine ⟨by rw [e1, hc.sync.1], by rw [e2, hc.sync.2, hs], ?_⟩
  rw [e3, hc.sync.1]
  obtain ⟨f, n, dn⟩ := g
  simp only at hd
  subst hd
  rfl
theorem lgFr_pos (g : Lg) (x : List UInt8) : 0 < (lgFr g x).length := frameJ_pos _ _
/-- the files behind an Append that fits -/
theorem files_app {s : Ds} {n : Int} {fr : List UInt8} {z : RdX} (hok : OkF s.fs) (hn : there n) (hz : ((fget s.fs n).b ++ fr).length ≤ z.c) (hp : 0 < fr.length) :
    OkF (hard (setF s.fs n (appF s n fr z))) ∧ (fget (hard (setF s.fs n (appF s n fr z))) n).b = (fget s.fs n).b ++ fr ∧ used (hard (setF s.fs n (appF s n fr z))) = used s.fs + fr.length := by
  have hlen : (appF s n fr z).b.length = (fget s.fs n).b.length + fr.length := by show ((fget s.fs n).b ++ fr).length = _; rw [List.length_append]
  have e : setF s.fs n (appF s n fr z) = fset s.fs n (appF s n fr z) := by unfold setF; rw [if_neg (by omega)]
  refine ⟨OkF.hard (OkF.setF hok hn ⟨hz, ?_⟩), ?_, ?_⟩
  · have := (fget_each hok n).2
    show (fget s.fs n).dur ≤ (appF s n fr z).b.length
    omega
  · rw [fget_hard, e, fget_set]; rfl
  · rw [used_hard, e]
    have := used_set s.fs n (appF s n fr z)
    omega
theorem open_whole {s : Ds} {n : Int} {L : List (List UInt8)} (hb : (fget s.fs n).b = framesJ 0 L) (hL : FitJ 0 L) : scanJ 0 (fget s.fs n).b = L ∧ openFs s n = hard s.fs := by
  have h1 : scanJ 0 (fget s.fs n).b = L := by
    have h := scanJ_frames L 0 [] hL
    rw [List.append_nil, scanJ_nil, List.append_nil] at h
    rw [hb, h]
  refine ⟨h1, ?_⟩
  unfold openFs
  rw [h1, hb, if_neg (Nat.lt_irrefl _)]
end Go.GL
