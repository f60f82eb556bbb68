/- The law DocumentRuns holds: whatever the input, it returns true and the input reads as it did. No condition. -/
import Derived.Test.YtkdeopioelocnaaRuxe
set_option linter.unusedVariables false
set_option linter.unusedSimpArgs false
namespace Go.Proofs.Ytkdeopioelocnaa
open Go.ChangeShapes Go.WideShapes Go.ChangeAt Go.RowKit Go.GL Go.GL.Tree
theorem documentRuns_params : Try.f8.params = #[22, 22, 3, 3, 61, 22, 9, 3] := by kernel_rfl
set_option maxRecDepth 100000 in
theorem documentRuns_lifted (os : Os) (started : os.Started) (H : Type) (enc : TypeId × Value → H) :
    ReturnsInHanded {} Try.checked os 8 .any (Rows.documentRunsSpec.pre6 enc Try.prog Try.f8 Rows.documentRunsRow.domain false) (Rows.documentRunsSpec.post enc Try.prog Try.f8 false true false false) := by
  refine returnsInHanded_of_change (C := Try.checked) own_ started (by kernel_rfl) Try.func8
    (ChangeSpec.witness6 (enc := enc) (C := Try.checked) false ⟨#[], #[.slice none 0 0, .slice none 0 0, .int .i64 0, .int .i64 0, .agg #[.int .i64 0, .int .i64 0], .slice none 0 0, .string .empty, .int .i64 0], []⟩ 8 (by kernel_rfl) (by kernel_rfl) (by kernel_rfl) (by kernel_rfl)) ?_
  intro W base args ds gs before hval0 hW _ _
  have hval : ∀ (j : Nat) t v, Try.f8.params[j]? = some t → args[j]? = some v → Value.okWide Try.prog W .any base t v := hval0
  have hW' := hW
  obtain ⟨p, q, hA0, hV, rfl, hfz, hnd⟩ := hW
  have hA : DataW.TrodAll enc Try.prog W 0 (fun _ => true) true Try.f8.params.toList args.toList ds p := hA0
  rw [documentRuns_params] at hA hval
  obtain ⟨v0, vs0, d0, ds0, p0, q0, hargs, rfl, rfl, h0, r0⟩ := trodAll_cons hA
  obtain ⟨v1, vs1, d1, ds1, p1, q1, rfl, rfl, rfl, h1, r1⟩ := trodAll_cons r0
  obtain ⟨v2, vs2, d2, ds2, p2, q2, rfl, rfl, rfl, h2, r2⟩ := trodAll_cons r1
  obtain ⟨v3, vs3, d3, ds3, p3, q3, rfl, rfl, rfl, h3, r3⟩ := trodAll_cons r2
  obtain ⟨v4, vs4, d4, ds4, p4, q4, rfl, rfl, rfl, h4, r4⟩ := trodAll_cons r3
  obtain ⟨v5, vs5, d5, ds5, p5, q5, rfl, rfl, rfl, h5, r5⟩ := trodAll_cons r4
  obtain ⟨v6, vs6, d6, ds6, p6, q6, rfl, rfl, rfl, h6, r6⟩ := trodAll_cons r5
  obtain ⟨v7, vs7, d7, ds7, p7, q7, rfl, rfl, rfl, h7, r7⟩ := trodAll_cons r6
  obtain ⟨rfl, rfl, rfl⟩ := trodAll_nil r7
  obtain rfl : args = #[v0, v1, v2, v3, v4, v5, v6, v7] := by cases args; simp_all
  obtain ⟨oa0, ca0, xs0, rfl, hxa0, hxl0, hxm0, hxr0⟩ := in_ints1 sl22 i64_3 one3 (hval 0 22 v0 rfl rfl) h0
  have hok0 : IntsOk xs0 := ⟨by simp [maxLen] at hxm0; omega, hxr0⟩
  obtain ⟨oa1, ca1, xs1, rfl, hxa1, hxl1, hxm1, hxr1⟩ := in_ints1 sl22 i64_3 one3 (hval 1 22 v1 rfl rfl) h1
  have hok1 : IntsOk xs1 := ⟨by simp [maxLen] at hxm1; omega, hxr1⟩
  obtain ⟨o2, rfl, _, _, ho2⟩ := open_int (isI64_is i64_3) (hval 2 3 v2 rfl rfl) h2
  have hoi2 : -9223372036854775808 ≤ o2 ∧ o2 ≤ 9223372036854775807 := by simpa [Lit.wf, IntKind.min, IntKind.max, IntKind.signed, IntKind.bits] using ho2
  obtain ⟨o3, rfl, _, _, ho3⟩ := open_int (isI64_is i64_3) (hval 3 3 v3 rfl rfl) h3
  have hoi3 : -9223372036854775808 ≤ o3 ∧ o3 ≤ 9223372036854775807 := by simpa [Lit.wf, IntKind.min, IntKind.max, IntKind.signed, IntKind.bits] using ho3
  obtain ⟨pl4, pu4, rfl⟩ := in_pos1 (by kernel_rfl : inPosOk Try.prog 61 = true) (hval 4 61 v4 rfl rfl) h4
  obtain ⟨oa5, ca5, xs5, rfl, hxa5, hxl5, hxm5, hxr5⟩ := in_ints1 sl22 i64_3 one3 (hval 5 22 v5 rfl rfl) h5
  have hok5 : IntsOk xs5 := ⟨by simp [maxLen] at hxm5; omega, hxr5⟩
  obtain ⟨ba6, rfl⟩ := okWide_string (tyStr_underlying (by kernel_rfl : tyStr Try.prog 9 = true)) (hval 6 9 v6 rfl rfl)
  obtain ⟨o7, rfl, _, _, ho7⟩ := open_int (isI64_is i64_3) (hval 7 3 v7 rfl rfl) h7
  have hoi7 : -9223372036854775808 ≤ o7 ∧ o7 ≤ 9223372036854775807 := by simpa [Lit.wf, IntKind.min, IntKind.max, IntKind.signed, IntKind.bits] using ho7
  have hwalk := law_run (W := W) (law_runs05 (xs := xs0) (ms := xs1) (vs := xs5) (at0 := o2) (how := o3) (pl := pl4) (pu := pu4) (ver := o7) (text := ba6.data.toList) (oa := oa0) (om := oa1) (ov := oa5) (ca := ca0) (cm := ca1) (cv := ca5) (M := []) (F := [OldF W, ArrF oa0 (ints xs0), ArrF oa1 (ints xs1), ArrF oa5 (ints xs5)]) (.tail _ (.head _)) (.tail _ (.tail _ (.head _))) (.tail _ (.tail _ (.tail _ (.head _)))) hxl0 hok0 hok1 hok5 hoi2 hoi3 hoi7) (fun φ hφ => by
      rcases List.mem_cons.1 hφ with e | hφ
      · subst e; exact hxa0
      rcases List.mem_cons.1 hφ with e | hφ
      · subst e; exact hxa1
      rcases List.mem_cons.1 hφ with e | hφ
      · subst e; exact hxa5
      cases hφ)
  exact hwalk.mono fun e W' ⟨he, hb⟩ => ⟨_, he, law_post (tb := 4) laidOut_ (by kernel_rfl) rfl (by kernel_rfl) (by kernel_rfl) rfl hW' hb⟩
theorem documentRuns_holds : Rows.DocumentRunsSaid :=
  OpenClaim.holds_of_wide 8 Try.f8 rfl rfl rfl rfl rfl rfl rfl ⟨rfl, rfl, rfl, rfl, rfl⟩ rfl rfl rfl rfl rfl (by kernel_rfl) Try.func8 (by kernel_rfl)
    (of_decide_eq_true (by kernel_rfl)) (by unfold Func.isWrapper; first | (rw [if_pos (by decide +kernel)]; kernel_rfl) | (rw [if_neg (by decide +kernel)]; exact ⟨rfl, rfl⟩))
    (fun os started H enc _ => documentRuns_lifted os started H enc)
end Go.Proofs.Ytkdeopioelocnaa
