/- The law JournalFrames holds: whatever the input, it returns true and the input reads as it did. No condition. -/
import Derived.Test.YtdlpaojkkekdlaaJn
import Derived.Test.YtdlpaojkkekdlaaWl
namespace Go.Proofs.Ytdlpaojkkekdlaa
open Go.ChangeShapes Go.WideShapes Go.ChangeAt Go.RowKit Go.GL Go.GL.Tree
theorem journalFrames_params : Try.f3.params = #[22, 3, 23, 23] := by kernel_rfl
set_option maxRecDepth 100000 in
theorem journalFrames_lifted (os : Os) (started : os.Started) (H : Type) (enc : TypeId × Value → H) :
    ReturnsInHanded {} Try.checked os 3 .any (Rows.journalFramesSpec.pre6 enc Try.prog Try.f3 Rows.journalFramesRow.domain false) (Rows.journalFramesSpec.post enc Try.prog Try.f3 false true false false) := by
  refine returnsInHanded_of_change (C := Try.checked) own_ started (by kernel_rfl) Try.func3
    (ChangeSpec.witness6 (enc := enc) (C := Try.checked) false ⟨#[], #[.slice none 0 0, .int .i64 0, .slice none 0 0, .slice none 0 0], []⟩ 8 (by kernel_rfl) (by kernel_rfl) (by kernel_rfl) (by kernel_rfl)) ?_
  intro W base args ds gs before hval0 hW _ _
  have hval : ∀ (j : Nat) t v, Try.f3.params[j]? = some t → args[j]? = some v → Value.okWide Try.prog W .any base t v := hval0
  have hW' := hW
  obtain ⟨p, q, hA0, hV, rfl, hfz, hnd⟩ := hW
  have hA : DataW.TrodAll enc Try.prog W 0 (fun _ => true) true Try.f3.params.toList args.toList ds p := hA0
  rw [journalFrames_params] at hA hval
  obtain ⟨v0, vs0, d0, ds0, p0, q0, hargs, rfl, rfl, h0, r0⟩ := trodAll_cons hA
  obtain ⟨v1, vs1, d1, ds1, p1, q1, rfl, rfl, rfl, h1, r1⟩ := trodAll_cons r0
  obtain ⟨v2, vs2, d2, ds2, p2, q2, rfl, rfl, rfl, h2, r2⟩ := trodAll_cons r1
  obtain ⟨v3, vs3, d3, ds3, p3, q3, rfl, rfl, rfl, h3, r3⟩ := trodAll_cons r2
  obtain ⟨rfl, rfl, rfl⟩ := trodAll_nil r3
  obtain rfl : args = #[v0, v1, v2, v3] := by cases args; simp_all
  obtain ⟨oa0, ca0, xs0, rfl, hxa0, hxl0, hxm0, hxr0⟩ := in_ints1 sl22 i64_3 one3 (hval 0 22 v0 rfl rfl) h0
  have hok0 : IntsOk xs0 := ⟨by simp [maxLen] at hxm0; omega, hxr0⟩
  obtain ⟨o1, rfl, _, _, ho1⟩ := open_int (isI64_is i64_3) (hval 1 3 v1 rfl rfl) h1
  have hoi1 : -9223372036854775808 ≤ o1 ∧ o1 ≤ 9223372036854775807 := by simpa [Lit.wf, IntKind.min, IntKind.max, IntKind.signed, IntKind.bits] using ho1
  obtain ⟨oa2, ca2, xs2, rfl, hxa2, hxl2, hxm2⟩ := in_bytes1 sl23 u8_5 one5 (hval 2 23 v2 rfl rfl) h2
  obtain ⟨oa3, ca3, xs3, rfl, hxa3, hxl3, hxm3⟩ := in_bytes1 sl23 u8_5 one5 (hval 3 23 v3 rfl rfl) h3
  have hwalk := law_run (W := W) (law_frames (xs := xs0) (n := o1) (b := xs2) (rest := xs3) (oa := oa0) (ob := oa2) (oc := oa3) (ca := ca0) (cb := ca2) (cc := ca3) (M := []) (F := [OldF W, ArrF oa0 (ints xs0), ArrF oa2 (bytesV xs2), ArrF oa3 (bytesV xs3)]) (.tail _ (.head _)) hok0 hoi1.1 hoi1.2 (.tail _ (.tail _ (.head _))) hxl2 (.tail _ (.tail _ (.tail _ (.head _)))) hxl3) (fun φ hφ => by
      rcases List.mem_cons.1 hφ with e | hφ
      · subst e; exact hxa0
      rcases List.mem_cons.1 hφ with e | hφ
      · subst e; exact hxa2
      rcases List.mem_cons.1 hφ with e | hφ
      · subst e; exact hxa3
      cases hφ)
  exact hwalk.mono fun e W' ⟨he, hb⟩ => ⟨_, he, law_post (tb := 4) laidOut_ (by kernel_rfl) rfl (by kernel_rfl) (by kernel_rfl) rfl hW' hb⟩
theorem journalFrames_holds : Rows.JournalFramesSaid :=
  OpenClaim.holds_of_wide 3 Try.f3 rfl rfl rfl rfl rfl rfl rfl ⟨rfl, rfl, rfl, rfl, rfl⟩ rfl rfl rfl rfl rfl (by kernel_rfl) Try.func3 (by kernel_rfl)
    (of_decide_eq_true (by kernel_rfl)) (by unfold Func.isWrapper; first | (rw [if_pos (by decide +kernel)]; kernel_rfl) | (rw [if_neg (by decide +kernel)]; exact ⟨rfl, rfl⟩))
    (fun os started H enc _ => journalFrames_lifted os started H enc)
end Go.Proofs.Ytdlpaojkkekdlaa
