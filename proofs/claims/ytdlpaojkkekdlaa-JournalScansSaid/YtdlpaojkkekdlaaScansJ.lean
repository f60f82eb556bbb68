/- The law JournalScans holds: whatever the input, it returns true and the input reads as it did. No condition. -/
import Derived.Test.YtdlpaojkkekdlaaJn
import Derived.Test.YtdlpaojkkekdlaaWm
namespace Go.Proofs.Ytdlpaojkkekdlaa
open Go.ChangeShapes Go.WideShapes Go.ChangeAt Go.RowKit Go.GL Go.GL.Tree
theorem journalScans_params : Try.f4.params = #[23, 22, 3, 5] := by kernel_rfl
set_option maxRecDepth 100000 in
theorem journalScans_lifted (os : Os) (started : os.Started) (H : Type) (enc : TypeId × Value → H) :
    ReturnsInHanded {} Try.checked os 4 .any (Rows.journalScansSpec.pre6 enc Try.prog Try.f4 Rows.journalScansRow.domain false) (Rows.journalScansSpec.post enc Try.prog Try.f4 false true false false) := by
  refine returnsInHanded_of_change (C := Try.checked) own_ started (by kernel_rfl) Try.func4
    (ChangeSpec.witness6 (enc := enc) (C := Try.checked) false ⟨#[], #[.slice none 0 0, .slice none 0 0, .int .i64 0, .int .u8 0], []⟩ 8 (by kernel_rfl) (by kernel_rfl) (by kernel_rfl) (by kernel_rfl)) ?_
  intro W base args ds gs before hval0 hW _ _
  have hval : ∀ (j : Nat) t v, Try.f4.params[j]? = some t → args[j]? = some v → Value.okWide Try.prog W .any base t v := hval0
  have hW' := hW
  obtain ⟨p, q, hA0, hV, rfl, hfz, hnd⟩ := hW
  have hA : DataW.TrodAll enc Try.prog W 0 (fun _ => true) true Try.f4.params.toList args.toList ds p := hA0
  rw [journalScans_params] at hA hval
  obtain ⟨v0, vs0, d0, ds0, p0, q0, hargs, rfl, rfl, h0, r0⟩ := trodAll_cons hA
  obtain ⟨v1, vs1, d1, ds1, p1, q1, rfl, rfl, rfl, h1, r1⟩ := trodAll_cons r0
  obtain ⟨v2, vs2, d2, ds2, p2, q2, rfl, rfl, rfl, h2, r2⟩ := trodAll_cons r1
  obtain ⟨v3, vs3, d3, ds3, p3, q3, rfl, rfl, rfl, h3, r3⟩ := trodAll_cons r2
  obtain ⟨rfl, rfl, rfl⟩ := trodAll_nil r3
  obtain rfl : args = #[v0, v1, v2, v3] := by cases args; simp_all
  obtain ⟨oa0, ca0, xs0, rfl, hxa0, hxl0, hxm0⟩ := in_bytes1 sl23 u8_5 one5 (hval 0 23 v0 rfl rfl) h0
  obtain ⟨oa1, ca1, xs1, rfl, hxa1, hxl1, hxm1, hxr1⟩ := in_ints1 sl22 i64_3 one3 (hval 1 22 v1 rfl rfl) h1
  have hok1 : IntsOk xs1 := ⟨by simp [maxLen] at hxm1; omega, hxr1⟩
  obtain ⟨o2, rfl, _, _, ho2⟩ := open_int (isI64_is i64_3) (hval 2 3 v2 rfl rfl) h2
  have hoi2 : -9223372036854775808 ≤ o2 ∧ o2 ≤ 9223372036854775807 := by simpa [Lit.wf, IntKind.min, IntKind.max, IntKind.signed, IntKind.bits] using ho2
  obtain ⟨o3, rfl, _, _, ho3⟩ := open_int (tyInt_is u8_5) (hval 3 5 v3 rfl rfl) h3
  have hoi3 : 0 ≤ o3 ∧ o3 ≤ 255 := by simpa [Lit.wf, IntKind.min, IntKind.max, IntKind.signed, IntKind.bits] using ho3
  have hwalk := law_run (W := W) (law_scans (raw := xs0) (xs := xs1) (n := o2) (q := o3) (oa := oa1) (ob := oa0) (ca := ca1) (cb := ca0) (M := []) (F := [OldF W, ArrF oa0 (bytesV xs0), ArrF oa1 (ints xs1)]) (.tail _ (.head _)) hxl0 (.tail _ (.tail _ (.head _))) hok1 hoi2 hoi3) (fun φ hφ => by
      rcases List.mem_cons.1 hφ with e | hφ
      · subst e; exact hxa0
      rcases List.mem_cons.1 hφ with e | hφ
      · subst e; exact hxa1
      cases hφ)
  exact hwalk.mono fun e W' ⟨he, hb⟩ => ⟨_, he, law_post (tb := 4) laidOut_ (by kernel_rfl) rfl (by kernel_rfl) (by kernel_rfl) rfl hW' hb⟩
theorem journalScans_holds : Rows.JournalScansSaid :=
  OpenClaim.holds_of_wide 4 Try.f4 rfl rfl rfl rfl rfl rfl rfl ⟨rfl, rfl, rfl, rfl, rfl⟩ rfl rfl rfl rfl rfl (by kernel_rfl) Try.func4 (by kernel_rfl)
    (of_decide_eq_true (by kernel_rfl)) (by unfold Func.isWrapper; first | (rw [if_pos (by decide +kernel)]; kernel_rfl) | (rw [if_neg (by decide +kernel)]; exact ⟨rfl, rfl⟩))
    (fun os started H enc _ => journalScans_lifted os started H enc)
end Go.Proofs.Ytdlpaojkkekdlaa
