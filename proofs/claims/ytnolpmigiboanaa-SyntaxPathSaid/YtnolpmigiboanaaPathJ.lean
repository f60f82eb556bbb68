/- The law SyntaxPath holds: whatever the input, it returns true and the input reads as it did. No condition but that no ring is in the inputs (the row says so). -/
import Derived.Test.YtnolpmigiboanaaJoin
import Derived.Test.YtnolpmigiboanaaTa
namespace Go.Proofs.Ytnolpmigiboanaa
open Go.ChangeShapes Go.WideShapes Go.ChangeAt Go.RowKit Go.GL Go.GL.Tree
theorem own_ : ownKnob Try.prog.godebug = none := by kernel_rfl
theorem laidOut_ : laidOutB Try.prog = true := by kernel_rfl
theorem node25 : nodeOk Try.prog 25 = true := by kernel_rfl
theorem sl22 : isSl Try.prog 22 3 = true := by kernel_rfl
theorem i64_3 : isI64 Try.prog 3 = true := by kernel_rfl
theorem one3 : Nat.beq (Try.prog.cellsOf 3) 1 = true := by kernel_rfl
theorem params3_ : Try.f3.params = #[22, 25, 3] := by kernel_rfl
set_option maxRecDepth 100000 in
theorem path_lifted (os : Os) (started : os.Started) (H : Type) (enc : TypeId × Value → H) :
    ReturnsInHanded {} Try.checked os 3 .any (Rows.syntaxPathSpec.pre6 enc Try.prog Try.f3 Rows.syntaxPathRow.domain false) (Rows.syntaxPathSpec.post enc Try.prog Try.f3 false true false false) := by
  refine returnsInHanded_of_change (C := Try.checked) own_ started (by kernel_rfl) Try.func3
    (ChangeSpec.witness6 (enc := enc) (C := Try.checked) false ⟨#[], #[.slice none 0 0, .agg #[.int .i64 0, .int .i64 0, .string .empty, .slice none 0 0], .int .i64 0], []⟩ 8 (by kernel_rfl) (by kernel_rfl) (by kernel_rfl) (by kernel_rfl)) ?_
  intro W base args ds gs before hval0 hW hcnd _
  have hval : ∀ (j : Nat) t v, Try.f3.params[j]? = some t → args[j]? = some v → Value.okWide Try.prog W .any base t v := hval0
  have hW' := hW
  obtain ⟨p, q, hA0, hV, rfl, hfz, hnd⟩ := hW
  have hA : DataW.TrodAll enc Try.prog W 0 (fun _ => true) true Try.f3.params.toList args.toList ds p := hA0
  rw [params3_] at hA hval
  obtain ⟨v0, v1, v2, d0, d1, d2, p0, p1, p2, rfl, rfl, _, h0, h1, h2⟩ := trodAll_three hA
  obtain ⟨oa, ca, xs, rfl, hxa, hxl, hxm, hxr⟩ := in_ints1 sl22 i64_3 one3 (hval 0 22 v0 rfl rfl) h0
  obtain ⟨t, a, len, cap, rfl, ht⟩ := in_node node25 (hval 1 25 v1 rfl rfl) h1
  obtain ⟨o, rfl, _, _, ho⟩ := open_int (isI64_is i64_3) (hval 2 3 v2 rfl rfl) h2
  have hwalk := law_run (W := W) (law_path (xs := xs) (oa := oa) (ca := ca) (o := o) (t := t) (a := a) (len := len) (cap := cap) (M := []) (F := [OldF W, ArrF oa (ints xs), TreeF t (nodeV t a len cap)])
    (.tail _ (.head _)) ⟨by simp [maxLen] at hxm; omega, hxr⟩ (.tail _ (.tail _ (.head _)))) (fun φ hφ => by
      rcases List.mem_cons.1 hφ with e | hφ
      · subst e; exact hxa
      · rcases List.mem_cons.1 hφ with e | hφ
        · subst e; exact ht
        · cases hφ)
  refine hwalk.mono fun e W' ⟨he, hb⟩ => ⟨_, he, ?_⟩
  exact law_post (tb := 4) laidOut_ (by kernel_rfl) rfl (by kernel_rfl) (by kernel_rfl) rfl hW' hb
theorem path_holds : Rows.SyntaxPathSaid :=
  OpenClaim.holds_of_wide 3 Try.f3 rfl rfl rfl rfl rfl rfl rfl ⟨rfl, rfl, rfl, rfl, rfl⟩ rfl rfl rfl rfl rfl (by kernel_rfl) Try.func3 (by kernel_rfl)
    (of_decide_eq_true (by kernel_rfl)) (by unfold Func.isWrapper; first | (rw [if_pos (by decide +kernel)]; kernel_rfl) | (rw [if_neg (by decide +kernel)]; exact ⟨rfl, rfl⟩))
    (fun os started H enc _ => path_lifted os started H enc)

end Go.Proofs.Ytnolpmigiboanaa
