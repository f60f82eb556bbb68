/- The law MemoCutoff holds: whatever the input, it returns true and the input reads as it did. No condition. -/
import Derived.Test.YthefimaaeilefaaPctc
set_option linter.unusedVariables false
set_option linter.unusedSimpArgs false
namespace Go.Proofs.Ythefimaaeilefaa
open Go.GL
set_option linter.unusedVariables false
theorem ws_bs35_2_0_1 (x0 : List UInt8) (x1 : List UInt8) : BuildSV Try.prog 35 9 2 [(0, S x0), (1, S x1)] [S x0, S x1] := fun w => by kernel_rfl
theorem ws_bs35_4_0_1_2_3 (x0 : List UInt8) (x1 : List UInt8) (x2 : List UInt8) (x3 : List UInt8) : BuildSV Try.prog 35 9 4 [(0, S x0), (1, S x1), (2, S x2), (3, S x3)] [S x0, S x1, S x2, S x3] := fun w => by kernel_rfl
theorem ws_tl35 : tySlice Try.prog 35 9 = true := by kernel_rfl
theorem ws_tp24 : tyPtr Try.prog 24 65 = true := by kernel_rfl
def ctE (x : Nat) : En := setE [114, 51] (txB (arN 61 5000)) (setE [114, 50] (txB (arN 56 5000)) (setE [114, 49] (txB (arN 4 5000)) (setE [114, 48] (txB (arN ((500 * x : Nat) : Int) 5000)) newE)))
def ctG (x : Nat) : An × En := getE ruleR (UR.length + 1) [110, 51] 50 (ctE x)
def ctS (x y : Nat) : En := setE [114, 48] (txB (arN ((500 * y : Nat) : Int) 5000)) { (ctG x).2 with comp := [] }
def ctH (x y : Nat) : An × En := getE ruleR (UR.length + 1) [110, 51] 50 (ctS x y)
theorem ctG_is (x : Nat) : getE ruleR (UR.length + 1) [110, 51] 50 (ctE x) = ctG x := rfl
theorem ctH_is (x y : Nat) : getE ruleR (UR.length + 1) [110, 51] 50 (ctS x y) = ctH x y := rfl
def CutOk (x y : Nat) : Prop := ((ctG x).1.e = 0 ∧ (ctH x y).1.e = 0) ∧ (if x = y then (ctH x y).2.comp = [] ∧ (ctG x).1.s = (ctH x y).1.s
  else if x / 4 % 2 = y / 4 % 2 then (ctH x y).2.comp = [[110, 48], [110, 49]] ∧ (ctG x).1.s = (ctH x y).1.s
  else (ctH x y).2.comp = [[110, 48], [110, 49], [110, 50], [110, 51]] ∧ (ctG x).1.s ≠ (ctH x y).1.s)
instance (x y : Nat) : Decidable (CutOk x y) := by unfold CutOk; exact inferInstance
theorem cut_all : ∀ x, x ∈ List.range 10 → ∀ y, y ∈ List.range 10 → CutOk x y := by decide +kernel
theorem cut_ok {x y : Nat} (hx : x < 10) (hy : y < 10) : CutOk x y := cut_all x (List.mem_range.2 hx) y (List.mem_range.2 hy)
theorem tx5 (n : Int) : (txB (arN n 5000)).length ≤ 4 := txB_len (by have := arN_lt (n := n) (m := 5000) (by decide); omega)
set_option maxHeartbeats 1000000 in
theorem law_cutoff {a c : Int} {v3 : Value} {M : List HP} {F : List Fact} (ha : -9223372036854775808 ≤ a ∧ a ≤ 9223372036854775807) (hc : -9223372036854775808 ≤ c ∧ c ≤ 9223372036854775807) : Ctr Try.prog 4 [I a, I c, v3] M F Unit (fun _ => .bool true) (fun _ => M) (fun _ => F) := by
  refine Ctr.body Try.func4 rfl rfl ?_
  refine TR.seq ?_
  refine TR.region ?_
  refine RL.assign rfl rfl rfl ?_
  refine RL.nil ?_
  refine NX.seq ?_
  refine TR.seq ?_
  refine TR.region ?_
  refine RL.call rfl rfl Try.call10 rfl (new_spec (f := .func 11) (a := [].toArray) (c := [].toArray) (by decide)) (fun b => ?_)
  refine RL.move rfl rfl rfl ?_
  refine RL.extract rfl rfl rfl rfl ?_
  refine RL.extract rfl rfl rfl rfl ?_
  refine RL.assign rfl rfl rfl ?_
  refine RL.assign rfl rfl rfl ?_
  refine RL.nil ?_
  refine NX.seq ?_
  refine TR.seq ?_
  refine TR.seq ?_
  refine TR.region ?_
  refine RL.move rfl rfl rfl ?_
  refine RL.bin rfl rfl rfl (BinV.eqlPtrNil ws_tp24) rfl ?_
  refine RL.move rfl rfl rfl ?_
  refine RL.move rfl rfl rfl ?_
  refine RL.bin rfl rfl rfl (BinV.to (d := false) BinV.neq (decide_eq_false (by decide))) rfl ?_
  refine RL.pickF rfl rfl rfl rfl ?_
  refine RL.nil ?_
  refine NX.seq ?_
  refine TR.condF rfl ?_
  refine TR.skip ?_
  refine NX.seq ?_
  refine TR.seq ?_
  refine TR.region ?_
  refine RL.move rfl rfl rfl ?_
  refine RL.call rfl rfl Try.call9 rfl (around_spec (by decide) ha.1 ha.2) (fun _ => ?_)
  have hx10 : arN a 10 < 10 := by have := arN_lt (n := a) (m := 10) (by decide); omega
  refine RL.assign rfl rfl rfl ?_
  refine RL.nil ?_
  refine NX.seq ?_
  refine TR.seq ?_
  refine TR.region ?_
  refine RL.move rfl rfl rfl ?_
  refine RL.call rfl rfl Try.call9 rfl (around_spec (by decide) hc.1 hc.2) (fun _ => ?_)
  have hy10 : arN c 10 < 10 := by have := arN_lt (n := c) (m := 10) (by decide); omega
  have hct := cut_ok hx10 hy10
  refine RL.assign rfl rfl rfl ?_
  refine RL.nil ?_
  refine NX.seq ?_
  refine TR.seq ?_
  refine TR.region ?_
  refine RL.move rfl rfl rfl ?_
  refine RL.move rfl rfl rfl ?_
  refine RL.bin rfl rfl rfl (BinV.mul ((500 * (arN a 10) : Nat) : Int) (by omega) (by omega) (by omega)) rfl ?_
  refine RL.call rfl rfl Try.call14 rfl (text_spec (n := ((500 * (arN a 10) : Nat) : Int)) (by omega) (by omega)) (fun _ => ?_)
  refine RL.call rfl rfl Try.call12 rfl (set_spec (X := newX) (k := [114, 48]) (v := txB (arN ((500 * (arN a 10) : Nat) : Int) 5000)) (by unfold KO; decide) (.head _)) (fun _ => ?_)
  refine RL.nil ?_
  refine NX.seq ?_
  refine TR.seq ?_
  refine TR.region ?_
  refine RL.move rfl rfl rfl ?_
  refine RL.call rfl rfl Try.call14 rfl (text_spec (n := 4) (by omega) (by omega)) (fun _ => ?_)
  refine RL.call rfl rfl Try.call12 rfl (set_spec (X := (setX [114, 48] (txB (arN ((500 * (arN a 10) : Nat) : Int) 5000)) newX)) (k := [114, 49]) (v := txB (arN 4 5000)) (by unfold KO; decide) (.head _)) (fun _ => ?_)
  refine RL.nil ?_
  refine NX.seq ?_
  refine TR.seq ?_
  refine TR.region ?_
  refine RL.move rfl rfl rfl ?_
  refine RL.call rfl rfl Try.call14 rfl (text_spec (n := 56) (by omega) (by omega)) (fun _ => ?_)
  refine RL.call rfl rfl Try.call12 rfl (set_spec (X := (setX [114, 49] (txB (arN 4 5000)) (setX [114, 48] (txB (arN ((500 * (arN a 10) : Nat) : Int) 5000)) newX))) (k := [114, 50]) (v := txB (arN 56 5000)) (by unfold KO; decide) (.head _)) (fun _ => ?_)
  refine RL.nil ?_
  refine NX.seq ?_
  refine TR.seq ?_
  refine TR.region ?_
  refine RL.move rfl rfl rfl ?_
  refine RL.call rfl rfl Try.call14 rfl (text_spec (n := 61) (by omega) (by omega)) (fun _ => ?_)
  refine RL.call rfl rfl Try.call12 rfl (set_spec (X := (setX [114, 50] (txB (arN 56 5000)) (setX [114, 49] (txB (arN 4 5000)) (setX [114, 48] (txB (arN ((500 * (arN a 10) : Nat) : Int) 5000)) newX)))) (k := [114, 51]) (v := txB (arN 61 5000)) (by unfold KO; decide) (.head _)) (fun _ => ?_)
  have hE1 : (setX [114, 51] (txB (arN 61 5000)) (setX [114, 50] (txB (arN 56 5000)) (setX [114, 49] (txB (arN 4 5000)) (setX [114, 48] (txB (arN ((500 * (arN a 10) : Nat) : Int) 5000)) newX)))).en = ctE (arN a 10) := by rw [setX_en, setX_en, setX_en, setX_en]; rfl
  have hR1 : Rest _ 0 (setX [114, 51] (txB (arN 61 5000)) (setX [114, 50] (txB (arN 56 5000)) (setX [114, 49] (txB (arN 4 5000)) (setX [114, 48] (txB (arN ((500 * (arN a 10) : Nat) : Int) 5000)) newX)))) := (((Rest.new.set [114, 48] (tx5 ((500 * (arN a 10) : Nat) : Int))).set [114, 49] (tx5 4)).set [114, 50] (tx5 56)).set [114, 51] (tx5 61)
  refine RL.nil ?_
  refine NX.seq ?_
  refine TR.seq ?_
  refine TR.region ?_
  refine RL.move rfl rfl rfl ?_
  refine RL.call rfl rfl Try.call15 rfl (getF_spec (f := 50) (fz := 50) (X := (setX [114, 51] (txB (arN 61 5000)) (setX [114, 50] (txB (arN 56 5000)) (setX [114, 49] (txB (arN 4 5000)) (setX [114, 48] (txB (arN ((500 * (arN a 10) : Nat) : Int) 5000)) newX))))) (k := [110, 51]) rfl hR1 (by decide) (by decide) (by decide) (.head _)) (fun Y1 => ?_)
  obtain ⟨Y1, hRY1, hY1⟩ := Y1
  rw [hE1, ctG_is] at hY1
  dsimp only
  refine RL.move rfl rfl rfl ?_
  refine RL.extract rfl rfl rfl rfl ?_
  refine RL.extract rfl rfl rfl rfl ?_
  refine RL.assign rfl rfl rfl ?_
  refine RL.assign rfl rfl rfl ?_
  refine RL.nil ?_
  refine NX.seq ?_
  refine TR.seq ?_
  refine TR.region ?_
  refine RL.move rfl rfl rfl ?_
  refine RL.call rfl rfl Try.call18 rfl (computed2 (X := Y1)) (fun z1 => ?_)
  have hE0 : ({ Y1 with comp := [] } : EX).en = { (ctG (arN a 10)).2 with comp := [] } := by show ({ Y1.en with comp := [] } : En) = _; rw [hY1]
  refine RL.nil ?_
  refine NX.seq ?_
  refine TR.seq ?_
  refine TR.region ?_
  refine RL.move rfl rfl rfl ?_
  refine RL.move rfl rfl rfl ?_
  refine RL.bin rfl rfl rfl (BinV.mul ((500 * (arN c 10) : Nat) : Int) (by omega) (by omega) (by omega)) rfl ?_
  refine RL.call rfl rfl Try.call14 rfl (text_spec (n := ((500 * (arN c 10) : Nat) : Int)) (by omega) (by omega)) (fun _ => ?_)
  refine RL.call rfl rfl Try.call12 rfl (set_spec (X := ({ Y1 with comp := [] } : EX)) (k := [114, 48]) (v := txB (arN ((500 * (arN c 10) : Nat) : Int) 5000)) (by unfold KO; decide) (.tail _ (.head _))) (fun _ => ?_)
  have hE2 : (setX [114, 48] (txB (arN ((500 * (arN c 10) : Nat) : Int) 5000)) ({ Y1 with comp := [] } : EX)).en = ctS (arN a 10) (arN c 10) := by rw [setX_en, hE0]; rfl
  have hR2 := hRY1.comp.set [114, 48] (tx5 ((500 * (arN c 10) : Nat) : Int))
  refine RL.nil ?_
  refine NX.seq ?_
  refine TR.seq ?_
  refine TR.region ?_
  refine RL.move rfl rfl rfl ?_
  refine RL.call rfl rfl Try.call15 rfl (getF_spec (f := 50) (fz := 50) (X := (setX [114, 48] (txB (arN ((500 * (arN c 10) : Nat) : Int) 5000)) ({ Y1 with comp := [] } : EX))) (k := [110, 51]) rfl hR2 (by decide) (by decide) (by decide) (.head _)) (fun Y2 => ?_)
  obtain ⟨Y2, hRY2, hY2⟩ := Y2
  rw [hE2, ctH_is] at hY2
  dsimp only
  refine RL.move rfl rfl rfl ?_
  refine RL.extract rfl rfl rfl rfl ?_
  refine RL.extract rfl rfl rfl rfl ?_
  refine RL.assign rfl rfl rfl ?_
  refine RL.assign rfl rfl rfl ?_
  refine RL.nil ?_
  refine NX.seq ?_
  refine TR.seq ?_
  refine TR.region ?_
  refine RL.move rfl rfl rfl ?_
  refine RL.call rfl rfl Try.call18 rfl (computed2 (X := Y2)) (fun z2 => ?_)
  refine RL.assign rfl rfl rfl ?_
  refine RL.nil ?_
  refine NX.seq ?_
  refine TR.seq ?_
  refine TR.seq ?_
  refine TR.region ?_
  refine RL.move rfl rfl rfl ?_
  refine RL.bin rfl rfl rfl (BinV.to (d := false) BinV.neq (decide_eq_false (fun h => h (by rw [hE1, ctG_is]; exact hct.1.1)))) rfl ?_
  refine RL.move rfl rfl rfl ?_
  refine RL.move rfl rfl rfl ?_
  refine RL.bin rfl rfl rfl (BinV.to (d := false) BinV.neq (decide_eq_false (fun h => h (by rw [hE2, ctH_is]; exact hct.1.2)))) rfl ?_
  refine RL.pickF rfl rfl rfl rfl ?_
  refine RL.nil ?_
  refine NX.seq ?_
  refine TR.condF rfl ?_
  refine TR.skip ?_
  refine NX.seq ?_
  refine TR.seq ?_
  refine TR.seq ?_
  refine TR.region ?_
  refine RL.move rfl rfl rfl ?_
  refine RL.move rfl rfl rfl ?_
  refine RL.bin rfl rfl rfl BinV.eql rfl ?_
  refine RL.nil ?_
  refine NX.seq ?_
  refine TR.cond rfl (fun h1 => ?_) (fun h1 => ?_)
  · skip
    have h71 : (arN a 10) = (arN c 10) := by have := of_decide_eq_true h1; omega
    have hcx := hct.2
    rw [if_pos h71] at hcx
    refine TR.seq ?_
    refine TR.region ?_
    refine RL.move rfl rfl rfl ?_
    refine RL.lenSlice rfl ws_tl35 rfl rfl ?_
    refine RL.bin rfl rfl rfl (BinV.to (d := true) BinV.eql (decide_eq_true (by show ((Y2.en.comp.length : Nat) : Int) = 0; rw [hY2, hcx.1]; rfl))) rfl ?_
    refine RL.move rfl rfl rfl ?_
    refine RL.move rfl rfl rfl ?_
    refine RL.move rfl rfl rfl ?_
    refine RL.bin rfl rfl rfl (BinV.to (d := true) BinV.eqlS (decide_eq_true (by rw [hE1, hE2, ctG_is, ctH_is]; exact hcx.2))) rfl ?_
    refine RL.pickT rfl rfl rfl rfl ?_
    refine RL.move rfl rfl rfl ?_
    refine RL.call rfl rfl Try.call17 rfl (lives_spec) (fun _ => ?_)
    refine RL.pickT rfl rfl rfl rfl ?_
    refine RL.assign rfl rfl rfl ?_
    refine RL.nil ?_
    refine NX.seq ?_
    refine TR.ret ?_
    refine NX.retThen ?_
    exact NX.ret1 () rfl rfl rfl (fun w hw => ((hw.to 1 [0] 10 [] rfl)).tail)
  · skip
    have h71 : ¬ (arN a 10) = (arN c 10) := by have := of_decide_eq_false h1; omega
    refine TR.skip ?_
    refine NX.seq ?_
    refine TR.seq ?_
    refine TR.seq ?_
    refine TR.region ?_
    refine RL.move rfl rfl rfl ?_
    refine RL.bin rfl rfl rfl (BinV.quo (by decide) (((arN a 10) / 4 : Nat) : Int) (by rw [Int.tdiv_eq_ediv_of_nonneg (by omega)]; omega) (by omega) (by omega)) rfl ?_
    refine RL.bin rfl rfl rfl (BinV.remK (a := (arN a 10) / 4) (b := 2) (by decide)) rfl ?_
    refine RL.move rfl rfl rfl ?_
    refine RL.bin rfl rfl rfl (BinV.quo (by decide) (((arN c 10) / 4 : Nat) : Int) (by rw [Int.tdiv_eq_ediv_of_nonneg (by omega)]; omega) (by omega) (by omega)) rfl ?_
    refine RL.bin rfl rfl rfl (BinV.remK (a := (arN c 10) / 4) (b := 2) (by decide)) rfl ?_
    refine RL.bin rfl rfl rfl BinV.eql rfl ?_
    refine RL.nil ?_
    refine NX.seq ?_
    refine TR.cond rfl (fun h2 => ?_) (fun h2 => ?_)
    · skip
      have h89 : (arN a 10) / 4 % 2 = (arN c 10) / 4 % 2 := by have := of_decide_eq_true h2; omega
      have hcx := hct.2
      rw [if_neg h71, if_pos h89] at hcx
      refine TR.seq ?_
      refine TR.region ?_
      refine RL.move rfl rfl rfl ?_
      refine RL.buildSlice rfl rfl (ws_bs35_2_0_1 _ _) rfl (fun b3 => ?_)
      refine RL.weak (fun w hw => St.keepSl (St.boxSl (n := 2) (size := 1) rfl (by decide) hw)) ?_
      refine RL.call rfl rfl Try.call19 rfl (sameT_ok (xs := Y2.comp) (ys := [[110, 48], [110, 49]]) (.tail _ (.head _)) (.head _) rfl rfl (by show Y2.en.comp.length ≤ _; rw [hY2, hcx.1]; decide) true (decide_eq_true (by show Y2.en.comp = _; rw [hY2]; exact hcx.1)).symm) (fun _ => ?_)
      refine RL.move rfl rfl rfl ?_
      refine RL.move rfl rfl rfl ?_
      refine RL.move rfl rfl rfl ?_
      refine RL.bin rfl rfl rfl (BinV.to (d := true) BinV.eqlS (decide_eq_true (by rw [hE1, hE2, ctG_is, ctH_is]; exact hcx.2))) rfl ?_
      refine RL.pickT rfl rfl rfl rfl ?_
      refine RL.move rfl rfl rfl ?_
      refine RL.call rfl rfl Try.call17 rfl (lives_spec) (fun _ => ?_)
      refine RL.pickT rfl rfl rfl rfl ?_
      refine RL.assign rfl rfl rfl ?_
      refine RL.nil ?_
      refine NX.seq ?_
      refine TR.ret ?_
      refine NX.retThen ?_
      exact NX.ret1 () rfl rfl rfl (fun w hw => ((hw.to 1 [0] 11 [] rfl)).tail)
    · skip
      have h89 : ¬ (arN a 10) / 4 % 2 = (arN c 10) / 4 % 2 := by have := of_decide_eq_false h2; omega
      have hcx := hct.2
      rw [if_neg h71, if_neg h89] at hcx
      have hne9 : (getE ruleR (UR.length + 1) [110, 51] 50 (setX [114, 51] (txB (arN 61 5000)) (setX [114, 50] (txB (arN 56 5000)) (setX [114, 49] (txB (arN 4 5000)) (setX [114, 48] (txB (arN ((500 * (arN a 10) : Nat) : Int) 5000)) newX)))).en).1.s ≠ (getE ruleR (UR.length + 1) [110, 51] 50 (setX [114, 48] (txB (arN ((500 * (arN c 10) : Nat) : Int) 5000)) ({ Y1 with comp := [] } : EX)).en).1.s := by
        intro h9
        rw [hE1, hE2, ctG_is, ctH_is] at h9
        exact hcx.2 h9
      refine TR.skip ?_
      refine NX.seq ?_
      refine TR.seq ?_
      refine TR.region ?_
      refine RL.move rfl rfl rfl ?_
      refine RL.buildSlice rfl rfl (ws_bs35_4_0_1_2_3 _ _ _ _) rfl (fun b4 => ?_)
      refine RL.weak (fun w hw => St.keepSl (St.boxSl (n := 4) (size := 1) rfl (by decide) hw)) ?_
      refine RL.call rfl rfl Try.call19 rfl (sameT_ok (xs := Y2.comp) (ys := [[110, 48], [110, 49], [110, 50], [110, 51]]) (.tail _ (.head _)) (.head _) rfl rfl (by show Y2.en.comp.length ≤ _; rw [hY2, hcx.1]; decide) true (decide_eq_true (by show Y2.en.comp = _; rw [hY2]; exact hcx.1)).symm) (fun _ => ?_)
      refine RL.move rfl rfl rfl ?_
      refine RL.move rfl rfl rfl ?_
      refine RL.move rfl rfl rfl ?_
      refine RL.bin rfl rfl rfl (BinV.to (d := true) BinV.neqS (decide_eq_true hne9)) rfl ?_
      refine RL.pickT rfl rfl rfl rfl ?_
      refine RL.move rfl rfl rfl ?_
      refine RL.call rfl rfl Try.call17 rfl (lives_spec) (fun _ => ?_)
      refine RL.pickT rfl rfl rfl rfl ?_
      refine RL.assign rfl rfl rfl ?_
      refine RL.nil ?_
      refine NX.seq ?_
      refine TR.ret ?_
      exact NX.ret1 () rfl rfl rfl (fun w hw => ((hw.to 1 [0] 11 [] rfl)).tail)
end Go.Proofs.Ythefimaaeilefaa

namespace Go.Proofs.Ythefimaaeilefaa
open Go.ChangeShapes Go.WideShapes Go.ChangeAt Go.RowKit Go.GL Go.GL.Tree
theorem memoCutoff_params : Try.f4.params = #[3, 3, 22] := by kernel_rfl
set_option maxRecDepth 100000 in
theorem memoCutoff_lifted (os : Os) (started : os.Started) (H : Type) (enc : TypeId × Value → H) :
    ReturnsInHanded {} Try.checked os 4 .any (Rows.memoCutoffSpec.pre6 enc Try.prog Try.f4 Rows.memoCutoffRow.domain false) (Rows.memoCutoffSpec.post enc Try.prog Try.f4 false true false false) := by
  refine returnsInHanded_of_change (C := Try.checked) own_ started (by kernel_rfl) Try.func4
    (ChangeSpec.witness6 (enc := enc) (C := Try.checked) false ⟨#[], #[.int .i64 0, .int .i64 0, .slice none 0 0], []⟩ 8 (by kernel_rfl) (by kernel_rfl) (by kernel_rfl) (by kernel_rfl)) ?_
  intro W base args ds gs before hval0 hW _ _
  have hval : ∀ (j : Nat) t v, Try.f4.params[j]? = some t → args[j]? = some v → Value.okWide Try.prog W .any base t v := hval0
  have hW' := hW
  obtain ⟨p, q, hA0, hV, rfl, hfz, hnd⟩ := hW
  have hA : DataW.TrodAll enc Try.prog W 0 (fun _ => true) true Try.f4.params.toList args.toList ds p := hA0
  rw [memoCutoff_params] at hA hval
  obtain ⟨v0, vs0, d0, ds0, p0, q0, hargs, rfl, rfl, h0, r0⟩ := trodAll_cons hA
  obtain ⟨v1, vs1, d1, ds1, p1, q1, rfl, rfl, rfl, h1, r1⟩ := trodAll_cons r0
  obtain ⟨v2, vs2, d2, ds2, p2, q2, rfl, rfl, rfl, h2, r2⟩ := trodAll_cons r1
  obtain ⟨rfl, rfl, rfl⟩ := trodAll_nil r2
  obtain rfl : args = #[v0, v1, v2] := by cases args; simp_all
  obtain ⟨o0, rfl, _, _, ho0⟩ := open_int (isI64_is i64_3) (hval 0 3 v0 rfl rfl) h0
  have hoi0 : -9223372036854775808 ≤ o0 ∧ o0 ≤ 9223372036854775807 := by simpa [Lit.wf, IntKind.min, IntKind.max, IntKind.signed, IntKind.bits] using ho0
  obtain ⟨o1, rfl, _, _, ho1⟩ := open_int (isI64_is i64_3) (hval 1 3 v1 rfl rfl) h1
  have hoi1 : -9223372036854775808 ≤ o1 ∧ o1 ≤ 9223372036854775807 := by simpa [Lit.wf, IntKind.min, IntKind.max, IntKind.signed, IntKind.bits] using ho1
  obtain ⟨oa2, ca2, xs2, rfl, hxa2, hxl2, hxm2, hxr2⟩ := in_ints1 sl22 i64_3 one3 (hval 2 22 v2 rfl rfl) h2
  have hok2 : IntsOk xs2 := ⟨by simp [maxLen] at hxm2; omega, hxr2⟩
  have hwalk := law_run (W := W) (law_cutoff (a := o0) (c := o1) (v3 := .slice oa2 xs2.length ca2) (M := []) (F := [OldF W, ArrF oa2 (ints xs2)]) hoi0 hoi1) (fun φ hφ => by
      rcases List.mem_cons.1 hφ with e | hφ
      · subst e; exact hxa2
      cases hφ)
  exact hwalk.mono fun e W' ⟨he, hb⟩ => ⟨_, he, law_post (tb := 4) laidOut_ (by kernel_rfl) rfl (by kernel_rfl) (by kernel_rfl) rfl hW' hb⟩
theorem memoCutoff_holds : Rows.MemoCutoffSaid :=
  OpenClaim.holds_of_wide 4 Try.f4 rfl rfl rfl rfl rfl rfl rfl ⟨rfl, rfl, rfl, rfl, rfl⟩ rfl rfl rfl rfl rfl (by kernel_rfl) Try.func4 (by kernel_rfl)
    (of_decide_eq_true (by kernel_rfl)) (by unfold Func.isWrapper; first | (rw [if_pos (by decide +kernel)]; kernel_rfl) | (rw [if_neg (by decide +kernel)]; exact ⟨rfl, rfl⟩))
    (fun os started H enc _ => memoCutoff_lifted os started H enc)
end Go.Proofs.Ythefimaaeilefaa
