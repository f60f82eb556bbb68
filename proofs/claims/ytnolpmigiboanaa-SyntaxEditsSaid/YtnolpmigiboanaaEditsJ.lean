/- The law SyntaxEdits holds: whatever the input, it returns true and the input reads as it did. No condition. -/
import Derived.Test.YtnolpmigiboanaaJn
import Derived.Test.YtnolpmigiboanaaTr
namespace Go.Proofs.Ytnolpmigiboanaa
open Go.ChangeShapes Go.WideShapes Go.ChangeAt Go.RowKit Go.GL Go.GL.Tree
theorem syntaxEdits_params : Try.f10.params = #[22, 22, 22] := by kernel_rfl
set_option maxRecDepth 100000 in
theorem syntaxEdits_lifted (os : Os) (started : os.Started) (H : Type) (enc : TypeId × Value → H) :
    ReturnsInHanded {} Try.checked os 10 .any (Rows.syntaxEditsSpec.pre6 enc Try.prog Try.f10 Rows.syntaxEditsRow.domain false) (Rows.syntaxEditsSpec.post enc Try.prog Try.f10 false true false false) := by
  refine returnsInHanded_of_change (C := Try.checked) own_ started (by kernel_rfl) Try.func10
    (ChangeSpec.witness6 (enc := enc) (C := Try.checked) false ⟨#[], #[.slice none 0 0, .slice none 0 0, .slice none 0 0], []⟩ 8 (by kernel_rfl) (by kernel_rfl) (by kernel_rfl) (by kernel_rfl)) ?_
  intro W base args ds gs before hval0 hW _ _
  have hval : ∀ (j : Nat) t v, Try.f10.params[j]? = some t → args[j]? = some v → Value.okWide Try.prog W .any base t v := hval0
  have hW' := hW
  obtain ⟨p, q, hA0, hV, rfl, hfz, hnd⟩ := hW
  have hA : DataW.TrodAll enc Try.prog W 0 (fun _ => true) true Try.f10.params.toList args.toList ds p := hA0
  rw [syntaxEdits_params] at hA hval
  obtain ⟨v0, vs0, d0, ds0, p0, q0, hargs, rfl, rfl, h0, r0⟩ := trodAll_cons hA
  obtain ⟨v1, vs1, d1, ds1, p1, q1, rfl, rfl, rfl, h1, r1⟩ := trodAll_cons r0
  obtain ⟨v2, vs2, d2, ds2, p2, q2, rfl, rfl, rfl, h2, r2⟩ := trodAll_cons r1
  obtain ⟨rfl, rfl, rfl⟩ := trodAll_nil r2
  obtain rfl : args = #[v0, v1, v2] := by cases args; simp_all
  obtain ⟨oa0, ca0, xs0, rfl, hxa0, hxl0, hxm0, hxr0⟩ := in_ints1 sl22 i64_3 one3 (hval 0 22 v0 rfl rfl) h0
  have hok0 : IntsOk xs0 := ⟨by simp [maxLen] at hxm0; omega, hxr0⟩
  obtain ⟨oa1, ca1, xs1, rfl, hxa1, hxl1, hxm1, hxr1⟩ := in_ints1 sl22 i64_3 one3 (hval 1 22 v1 rfl rfl) h1
  have hok1 : IntsOk xs1 := ⟨by simp [maxLen] at hxm1; omega, hxr1⟩
  obtain ⟨oa2, ca2, xs2, rfl, hxa2, hxl2, hxm2, hxr2⟩ := in_ints1 sl22 i64_3 one3 (hval 2 22 v2 rfl rfl) h2
  have hok2 : IntsOk xs2 := ⟨by simp [maxLen] at hxm2; omega, hxr2⟩
  have hwalk := law_run (W := W) (law_edits (xs := xs0) (ys := xs1) (zs := xs2) (oa := oa0) (ob := oa1) (oc := oa2) (ca := ca0) (cb := ca1) (cc := ca2) (M := []) (F := [OldF W, ArrF oa0 (ints xs0), ArrF oa1 (ints xs1), ArrF oa2 (ints xs2)]) (.tail _ (.head _)) hok0 (.tail _ (.tail _ (.head _))) hok1 (.tail _ (.tail _ (.tail _ (.head _)))) hok2) (fun φ hφ => by
      rcases List.mem_cons.1 hφ with e | hφ
      · subst e; exact hxa0
      rcases List.mem_cons.1 hφ with e | hφ
      · subst e; exact hxa1
      rcases List.mem_cons.1 hφ with e | hφ
      · subst e; exact hxa2
      cases hφ)
  exact hwalk.mono fun e W' ⟨he, hb⟩ => ⟨_, he, law_post (tb := 4) laidOut_ (by kernel_rfl) rfl (by kernel_rfl) (by kernel_rfl) rfl hW' hb⟩
theorem syntaxEdits_holds : Rows.SyntaxEditsSaid :=
  OpenClaim.holds_of_wide 10 Try.f10 rfl rfl rfl rfl rfl rfl rfl ⟨rfl, rfl, rfl, rfl, rfl⟩ rfl rfl rfl rfl rfl (by kernel_rfl) Try.func10 (by kernel_rfl)
    (of_decide_eq_true (by kernel_rfl)) (by unfold Func.isWrapper; first | (rw [if_pos (by decide +kernel)]; kernel_rfl) | (rw [if_neg (by decide +kernel)]; exact ⟨rfl, rfl⟩))
    (fun os started H enc _ => syntaxEdits_lifted os started H enc)
end Go.Proofs.Ytnolpmigiboanaa
