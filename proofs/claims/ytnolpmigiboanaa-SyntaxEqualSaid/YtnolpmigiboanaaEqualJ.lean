/- The law SyntaxEqual holds: whatever the input, it returns true and the input reads as it did. No condition but that no ring is in the inputs (the row says so). -/
import Derived.Test.YtnolpmigiboanaaJn
import Derived.Test.YtnolpmigiboanaaTl
namespace Go.Proofs.Ytnolpmigiboanaa
open Go.ChangeShapes Go.WideShapes Go.ChangeAt Go.RowKit Go.GL Go.GL.Tree
theorem syntaxEqual_params : Try.f8.params = #[25, 25, 22, 22, 3] := by kernel_rfl
set_option maxRecDepth 100000 in
theorem syntaxEqual_lifted (os : Os) (started : os.Started) (H : Type) (enc : TypeId × Value → H) :
    ReturnsInHanded {} Try.checked os 8 .any (Rows.syntaxEqualSpec.pre6 enc Try.prog Try.f8 Rows.syntaxEqualRow.domain false) (Rows.syntaxEqualSpec.post enc Try.prog Try.f8 false true false false) := by
  refine returnsInHanded_of_change (C := Try.checked) own_ started (by kernel_rfl) Try.func8
    (ChangeSpec.witness6 (enc := enc) (C := Try.checked) false ⟨#[], #[.agg #[.int .i64 0, .int .i64 0, .string .empty, .slice none 0 0], .agg #[.int .i64 0, .int .i64 0, .string .empty, .slice none 0 0], .slice none 0 0, .slice none 0 0, .int .i64 0], []⟩ 8 (by kernel_rfl) (by kernel_rfl) (by kernel_rfl) (by kernel_rfl)) ?_
  intro W base args ds gs before hval0 hW _ _
  have hval : ∀ (j : Nat) t v, Try.f8.params[j]? = some t → args[j]? = some v → Value.okWide Try.prog W .any base t v := hval0
  have hW' := hW
  obtain ⟨p, q, hA0, hV, rfl, hfz, hnd⟩ := hW
  have hA : DataW.TrodAll enc Try.prog W 0 (fun _ => true) true Try.f8.params.toList args.toList ds p := hA0
  rw [syntaxEqual_params] at hA hval
  obtain ⟨v0, vs0, d0, ds0, p0, q0, hargs, rfl, rfl, h0, r0⟩ := trodAll_cons hA
  obtain ⟨v1, vs1, d1, ds1, p1, q1, rfl, rfl, rfl, h1, r1⟩ := trodAll_cons r0
  obtain ⟨v2, vs2, d2, ds2, p2, q2, rfl, rfl, rfl, h2, r2⟩ := trodAll_cons r1
  obtain ⟨v3, vs3, d3, ds3, p3, q3, rfl, rfl, rfl, h3, r3⟩ := trodAll_cons r2
  obtain ⟨v4, vs4, d4, ds4, p4, q4, rfl, rfl, rfl, h4, r4⟩ := trodAll_cons r3
  obtain ⟨rfl, rfl, rfl⟩ := trodAll_nil r4
  obtain rfl : args = #[v0, v1, v2, v3, v4] := by cases args; simp_all
  obtain ⟨t0, a0, len0, cap0, rfl, ht0⟩ := in_node node25 (hval 0 25 v0 rfl rfl) h0
  obtain ⟨t1, a1, len1, cap1, rfl, ht1⟩ := in_node node25 (hval 1 25 v1 rfl rfl) h1
  obtain ⟨oa2, ca2, xs2, rfl, hxa2, hxl2, hxm2, hxr2⟩ := in_ints1 sl22 i64_3 one3 (hval 2 22 v2 rfl rfl) h2
  have hok2 : IntsOk xs2 := ⟨by simp [maxLen] at hxm2; omega, hxr2⟩
  obtain ⟨oa3, ca3, xs3, rfl, hxa3, hxl3, hxm3, hxr3⟩ := in_ints1 sl22 i64_3 one3 (hval 3 22 v3 rfl rfl) h3
  have hok3 : IntsOk xs3 := ⟨by simp [maxLen] at hxm3; omega, hxr3⟩
  obtain ⟨o4, rfl, _, _, ho4⟩ := open_int (isI64_is i64_3) (hval 4 3 v4 rfl rfl) h4
  have hwalk := law_run (W := W) (law_equal (t := t0) (u := t1) (a := a0) (a' := a1) (len := len0) (cap := cap0) (len' := len1) (cap' := cap1) (xs := xs2) (ys := xs3) (oa := oa2) (ob := oa3) (ca := ca2) (cb := ca3) (o := o4) (M := []) (F := [OldF W, TreeF t0 (nodeV t0 a0 len0 cap0), TreeF t1 (nodeV t1 a1 len1 cap1), ArrF oa2 (ints xs2), ArrF oa3 (ints xs3)]) (.tail _ (.head _)) (.tail _ (.tail _ (.head _))) (.tail _ (.tail _ (.tail _ (.head _)))) hok2 (.tail _ (.tail _ (.tail _ (.tail _ (.head _))))) hok3) (fun φ hφ => by
      rcases List.mem_cons.1 hφ with e | hφ
      · subst e; exact ht0
      rcases List.mem_cons.1 hφ with e | hφ
      · subst e; exact ht1
      rcases List.mem_cons.1 hφ with e | hφ
      · subst e; exact hxa2
      rcases List.mem_cons.1 hφ with e | hφ
      · subst e; exact hxa3
      cases hφ)
  exact hwalk.mono fun e W' ⟨he, hb⟩ => ⟨_, he, law_post (tb := 4) laidOut_ (by kernel_rfl) rfl (by kernel_rfl) (by kernel_rfl) rfl hW' hb⟩
theorem syntaxEqual_holds : Rows.SyntaxEqualSaid :=
  OpenClaim.holds_of_wide 8 Try.f8 rfl rfl rfl rfl rfl rfl rfl ⟨rfl, rfl, rfl, rfl, rfl⟩ rfl rfl rfl rfl rfl (by kernel_rfl) Try.func8 (by kernel_rfl)
    (of_decide_eq_true (by kernel_rfl)) (by unfold Func.isWrapper; first | (rw [if_pos (by decide +kernel)]; kernel_rfl) | (rw [if_neg (by decide +kernel)]; exact ⟨rfl, rfl⟩))
    (fun os started H enc _ => syntaxEqual_lifted os started H enc)
end Go.Proofs.Ytnolpmigiboanaa
