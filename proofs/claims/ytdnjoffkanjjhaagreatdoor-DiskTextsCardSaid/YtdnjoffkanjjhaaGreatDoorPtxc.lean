/- Lemmas and walks for the proof of TexJ: texts one behind the other. No condition. -/
import Derived.Laws.StructEq
import Derived.Laws.RangeAny
import Derived.Scope
import Derived.ChangeKeysEq
import Derived.Laws.Runes
import Derived.Lib.Bytealg
import Derived.Lib.IndexAny
import Derived.Test.YtdnjoffkanjjhaaGreatDoorPtxb
set_option linter.unusedVariables false
set_option linter.unusedSimpArgs false
namespace Go.Proofs.YtdnjoffkanjjhaaGreatDoor
open Go.GL
set_option linter.unusedVariables false
theorem ya_tl22 : tySlice Tryz.prog 22 3 = true := by kernel_rfl
theorem ya_ts3 : tyScalar Tryz.prog 3 = true := by kernel_rfl
theorem ya_tz3 : tySize Tryz.prog 3 1 = true := by kernel_rfl
theorem isnan_spec {a : Int} {M : List HP} {F : List Fact} : Ctr Tryz.prog 99 [I a] M F Unit (fun _ => .bool false) (fun _ => M) (fun _ => F) := by
  refine Ctr.body Tryz.func99 rfl rfl ?_
  refine TR.seq ?_
  refine TR.region ?_
  refine RL.assign rfl rfl rfl ?_
  refine RL.nil ?_
  refine NX.seq ?_
  refine TR.seq ?_
  refine TR.region ?_
  refine RL.move rfl rfl rfl ?_
  refine RL.move rfl rfl rfl ?_
  refine RL.bin rfl rfl rfl BinV.neq rfl ?_
  refine RL.assign rfl rfl rfl ?_
  refine RL.nil ?_
  refine NX.seq ?_
  refine TR.ret ?_
  exact NX.ret1 () rfl rfl (congrArg Value.bool (decide_eq_false (by simp))) (fun w hw => hw)
theorem less_spec {a b : Int} {M : List HP} {F : List Fact} : Ctr Tryz.prog 85 [I a, I b] M F Unit (fun _ => .bool (decide (a < b))) (fun _ => M) (fun _ => F) := by
  refine Ctr.body Tryz.func85 rfl rfl ?_
  refine TR.seq ?_
  refine TR.region ?_
  refine RL.assign rfl rfl rfl ?_
  refine RL.nil ?_
  refine NX.seq ?_
  refine TR.seq ?_
  refine TR.region ?_
  refine RL.move rfl rfl rfl ?_
  refine RL.call rfl rfl Tryz.call99 rfl (isnan_spec) (fun _ => ?_)
  refine RL.move rfl rfl rfl ?_
  refine RL.skip rfl rfl rfl ?_
  refine RL.skip rfl rfl rfl ?_
  refine RL.skip rfl rfl rfl ?_
  refine RL.pickF rfl rfl rfl rfl ?_
  refine RL.move rfl rfl rfl ?_
  refine RL.move rfl rfl rfl ?_
  refine RL.move rfl rfl rfl ?_
  refine RL.bin rfl rfl rfl BinV.lss rfl ?_
  refine RL.pickF rfl rfl rfl rfl ?_
  refine RL.assign rfl rfl rfl ?_
  refine RL.nil ?_
  refine NX.seq ?_
  refine TR.ret ?_
  exact NX.ret1 () rfl rfl rfl (fun w hw => hw)
structure SoX where
  l : List Int
  j : Nat
theorem isort_spec {l0 : List Int} {oa : Option Addr} {c : Nat} {M : List HP} {F : List Fact} (hl : l0.length ≤ 4611686018427387904) : Ctr Tryz.prog 79 [.slice oa l0.length c, I 0, I (l0.length : Nat)] (OwnSl 3 1 oa l0.length c (ints l0) :: M) F {l : List Int // l.Perm l0 ∧ Ord l l0.length} (fun _ => .tuple #[]) (fun z => OwnSl 3 1 oa l0.length c (ints z.1) :: M) (fun _ => F) := by
  refine Ctr.body Tryz.func79 rfl rfl ?_
  refine TR.seq ?_
  refine TR.region ?_
  refine RL.move rfl rfl rfl ?_
  refine RL.bin rfl rfl rfl (BinV.add _ rfl (by omega) (by omega)) rfl ?_
  refine RL.assign rfl rfl rfl ?_
  refine RL.nil ?_
  refine NX.seq ?_
  refine TR.block ?_
  refine TR.loopP (ι := SoX) (fun x => x.l.length = l0.length ∧ x.l.Perm l0 ∧ 1 ≤ x.j ∧ Ord x.l x.j) (fun x => [(0, .slice oa l0.length c), (1, I 0), (2, I (l0.length : Nat)), (6, I x.j)]) (fun x => OwnSl 3 1 oa l0.length c (ints x.l) :: M) (fun _ => F) (fun x => l0.length + 1 - x.j) ⟨l0, 1⟩ ⟨rfl, List.Perm.refl _, Nat.le_refl _, fun p q h1 h2 => absurd (show q < 1 from h2) (by omega)⟩ ⟨rfl, rfl, rfl, rfl, trivial⟩ (fun w hw => hw) (fun x hx => ?_)
  refine TR.seq ?_
  refine TR.seq ?_
  refine TR.region ?_
  refine RL.move rfl rfl rfl ?_
  refine RL.move rfl rfl rfl ?_
  refine RL.bin rfl rfl rfl BinV.lss rfl ?_
  refine RL.nil ?_
  refine NX.seq ?_
  refine TR.cond rfl (fun h1 => ?_) (fun h1 => ?_)
  · skip
    have hi : x.j < l0.length := by have := of_decide_eq_true h1; omega
    refine TR.openP (fun w hw => own_at (i := 0) (M := _ :: M) rfl (ints_ne (by omega)) hw) (fun g hga => ?_)
    refine TR.skip ?_
    refine NX.seq ?_
    refine TR.seq ?_
    refine TR.block ?_
    refine TR.seq ?_
    refine TR.region ?_
    refine RL.move rfl rfl rfl ?_
    refine RL.assign rfl rfl rfl ?_
    refine RL.nil ?_
    refine NX.seq ?_
    refine TR.block ?_
    refine TR.loopP (ι := SoX) (fun y => y.l.length = l0.length ∧ y.l.Perm l0 ∧ y.j ≤ x.j ∧ OrdBut y.l x.j y.j) (fun y => [(0, .slice oa l0.length c), (1, I 0), (2, I (l0.length : Nat)), (6, I x.j), (7, I y.j)]) (fun y => OwnSl 3 1 oa l0.length c (ints y.l) :: M) (fun _ => F) (fun y => y.j) ⟨x.l, x.j⟩ ⟨hx.1, hx.2.1, Nat.le_refl _, OrdBut.start hx.2.2.2⟩ ⟨rfl, rfl, rfl, rfl, rfl, trivial⟩ (fun w hw => hw) (fun y hy => ?_)
    refine TR.seq ?_
    refine TR.seq ?_
    refine TR.sub (E' := [(0, _), (1, _), (2, _), (6, _), (7, _)]) ⟨rfl, rfl, rfl, rfl, rfl, trivial⟩ ?_
    refine TR.draw mixed ?_
    cases h2 : decide ((0 : Int) < (y.j : Int))
    · skip
      have hs : y.j = 0 ∨ ¬ iAt y.l y.j < iAt y.l (y.j - 1) := Or.inl (by have := of_decide_eq_false h2; omega)
      apply AR.more [(0, _), (1, _), (2, _), (3, .bool false), (4, undef), (5, undef), (6, undef), (7, undef), (8, undef), (9, undef), (10, undef), (11, undef), (12, undef), (13, undef), (14, .bool false)]
      refine AR.last [0, 1, 2, 3, 4, 5, 6, 7, 8, 9, 10, 11, 12, 13, 14] [0, 1, 2, 3, 4, 5, 6, 7, 8, 9, 10, 11, 12, 13, 14] ⟨QOne.yes rfl rfl rfl (PV.move rfl), QOne.yes rfl rfl rfl (PV.move rfl), QOne.yes rfl rfl rfl (PV.bin rfl rfl BinV.gtr), QOne.yes rfl rfl rfl (PV.cast (congrArg Value.bool h2) (PV.move rfl)), QOne.no rfl rfl rfl, QOne.no rfl rfl rfl, QOne.no rfl rfl rfl, QOne.no rfl rfl rfl, QOne.no rfl rfl rfl, QOne.no rfl rfl rfl, QOne.no rfl rfl rfl, QOne.no rfl rfl rfl, QOne.no rfl rfl rfl, QOne.no rfl rfl rfl, QOne.yes rfl rfl rfl (PV.pickF rfl rfl), trivial⟩ rfl rfl rfl ?_
      refine NX.sub (E' := [(0, _), (1, _), (2, _), (6, _), (7, _), (16, _), (17, _), (18, _), (19, _), (20, _), (21, _), (22, _), (23, _), (24, _), (25, _), (26, _), (27, _), (28, _), (29, _), (30, _)]) ⟨rfl, rfl, rfl, rfl, rfl, rfl, rfl, rfl, rfl, rfl, rfl, rfl, rfl, rfl, rfl, rfl, rfl, rfl, rfl, rfl, trivial⟩ ?_
      refine NX.seq ?_
      refine TR.condF rfl ?_
      refine TR.exit ?_
      refine NX.exitThen ?_
      refine NX.exitThen ?_
      refine NX.exitHere ?_
      refine NX.off ?_
      refine NX.seq ?_
      refine TR.region ?_
      refine RL.move rfl rfl rfl ?_
      refine RL.bin rfl rfl rfl (BinV.add _ rfl (by omega) (by omega)) rfl ?_
      refine RL.assign rfl rfl rfl ?_
      refine RL.nil ?_
      refine NX.roundP ⟨y.l, x.j + 1⟩ ⟨hy.1, hy.2.1, by show 1 ≤ x.j + 1; omega, hy.2.2.2.stop hy.2.2.1 hs⟩ (by show l0.length + 1 - (x.j + 1) < l0.length + 1 - x.j; omega) ⟨rfl, rfl, rfl, rfl, trivial⟩ (fun w hw => hw)
    · skip
      have hj0 : 0 < y.j := by have := of_decide_eq_true h2; omega
      apply AR.more [(0, _), (1, _), (2, _), (3, .bool true), (4, _), (5, _), (6, _), (7, _), (8, _), (9, _), (10, _), (11, _), (12, _)]
      refine AR.eff [0, 1, 2, 3, 4, 5, 6, 7, 8, 9, 10, 11, 12] 13 [0, 1, 2, 3, 4, 5, 6, 7, 8, 9, 10, 11, 12, 13, 14] ⟨QOne.yes rfl rfl rfl (PV.move rfl), QOne.yes rfl rfl rfl (PV.move rfl), QOne.yes rfl rfl rfl (PV.bin rfl rfl BinV.gtr), QOne.yes rfl rfl rfl (PV.cast (congrArg Value.bool h2) (PV.move rfl)), QOne.yes rfl rfl rfl (PV.move rfl), QOne.yes rfl rfl rfl (PV.move rfl), QOne.yes rfl rfl rfl (PV.indexAddr ya_tl22 ya_tz3 (congrArg (fun a => some (Value.slice a _ _)) hga) rfl (by omega) (by omega)), QOne.yes rfl rfl rfl (PV.loadS rfl (own_one (i := 0) rfl hga ya_ts3 (ints_iAt (y.j) (by omega) (by omega)))), QOne.yes rfl rfl rfl (PV.move rfl), QOne.yes rfl rfl rfl (PV.move rfl), QOne.yes rfl rfl rfl (PV.bin rfl rfl (BinV.sub _ rfl (by omega) (by omega))), QOne.yes rfl rfl rfl (PV.indexAddr ya_tl22 ya_tz3 (congrArg (fun a => some (Value.slice a _ _)) hga) rfl (by omega) (by omega)), QOne.yes rfl rfl rfl (PV.loadS rfl (own_one (i := 0) rfl hga ya_ts3 (ints_iAt (y.j - 1) (by omega) (by omega)))), trivial⟩ rfl rfl rfl rfl rfl rfl rfl (EV.call rfl Tryz.call85 (less_spec)) (fun _ => ?_)
      refine AR.done [7, 12, 3, 2, 11, 6, 4, 5, 8, 10, 0, 1, 9] rfl ?_
      apply AR.more [(14, _)]
      refine AR.last [14] [0, 1, 2, 3, 4, 5, 6, 7, 8, 9, 10, 11, 12, 13, 14] ⟨QOne.yes rfl rfl rfl (PV.pickT rfl rfl), trivial⟩ rfl rfl rfl ?_
      refine NX.sub (E' := [(0, _), (1, _), (2, _), (6, _), (7, _), (16, _), (17, _), (18, _), (19, _), (20, _), (21, _), (22, _), (23, _), (24, _), (25, _), (26, _), (27, _), (28, _), (29, _), (30, _)]) ⟨rfl, rfl, rfl, rfl, rfl, rfl, rfl, rfl, rfl, rfl, rfl, rfl, rfl, rfl, rfl, rfl, rfl, rfl, rfl, rfl, trivial⟩ ?_
      refine NX.seq ?_
      refine TR.cond rfl (fun h3 => ?_) (fun h3 => ?_)
      · skip
        have hlt : iAt y.l y.j < iAt y.l (y.j - 1) := of_decide_eq_true h3
        refine TR.skip ?_
        refine NX.seq ?_
        refine TR.seq ?_
        refine TR.block ?_
        refine TR.sub (E' := [(0, _), (1, _), (2, _), (6, _), (7, _), (16, _), (17, _), (18, _), (19, _), (20, _), (21, _), (22, _), (23, _), (24, _), (25, _), (26, _), (27, _), (28, _), (29, _), (30, _)]) ⟨rfl, rfl, rfl, rfl, rfl, rfl, rfl, rfl, rfl, rfl, rfl, rfl, rfl, rfl, rfl, rfl, rfl, rfl, rfl, rfl, trivial⟩ ?_
        refine TR.draw mixed ?_
        apply AR.more [(0, _), (1, _), (2, _), (3, _), (4, _), (5, _), (6, _), (7, _), (8, _), (9, _), (10, _), (11, _), (12, _), (13, _), (14, _)]
        refine AR.eff [0, 1, 2, 3, 4, 5, 6, 7, 8, 9, 10, 11, 12, 13, 14] 15 [0, 1, 2, 3, 4, 5, 6, 7, 8, 9, 10, 11, 12, 13, 14, 15, 16, 17] ⟨QOne.yes rfl rfl rfl (PV.move rfl), QOne.yes rfl rfl rfl (PV.move rfl), QOne.yes rfl rfl rfl (PV.move rfl), QOne.yes rfl rfl rfl (PV.move rfl), QOne.yes rfl rfl rfl (PV.bin rfl rfl (BinV.sub _ rfl (by omega) (by omega))), QOne.yes rfl rfl rfl (PV.move rfl), QOne.yes rfl rfl rfl (PV.move rfl), QOne.yes rfl rfl rfl (PV.bin rfl rfl (BinV.sub _ rfl (by omega) (by omega))), QOne.yes rfl rfl rfl (PV.indexAddr ya_tl22 ya_tz3 (congrArg (fun a => some (Value.slice a _ _)) hga) rfl (by omega) (by omega)), QOne.yes rfl rfl rfl (PV.loadS rfl (own_one (i := 0) rfl hga ya_ts3 (ints_iAt (y.j - 1) (by omega) (by omega)))), QOne.yes rfl rfl rfl (PV.move rfl), QOne.yes rfl rfl rfl (PV.move rfl), QOne.yes rfl rfl rfl (PV.indexAddr ya_tl22 ya_tz3 (congrArg (fun a => some (Value.slice a _ _)) hga) rfl (by omega) (by omega)), QOne.yes rfl rfl rfl (PV.loadS rfl (own_one (i := 0) rfl hga ya_ts3 (ints_iAt (y.j) (by omega) (by omega)))), QOne.yes rfl rfl rfl (PV.indexAddr ya_tl22 ya_tz3 (congrArg (fun a => some (Value.slice a _ _)) hga) rfl (by omega) (by omega)), trivial⟩ rfl rfl rfl rfl rfl rfl rfl (EV.storeO (vs := [I (iAt y.l (y.j - 1))]) 0 rfl rfl rfl hga ya_tz3 rfl (by simp; omega) rfl) (fun _ => ?_)
        refine AR.done [14, 9, 0, 1, 5, 6, 7, 8, 13, 12, 10, 11] rfl ?_
        apply AR.more [(16, _)]
        refine AR.eff [2, 3, 4, 16] 17 [0, 1, 2, 3, 4, 5, 6, 7, 8, 9, 10, 11, 12, 13, 14, 15, 16, 17] ⟨QOne.yes rfl rfl rfl (PV.move rfl), QOne.yes rfl rfl rfl (PV.move rfl), QOne.yes rfl rfl rfl (PV.bin rfl rfl (BinV.sub _ rfl (by omega) (by omega))), QOne.yes rfl rfl rfl (PV.indexAddr ya_tl22 ya_tz3 (congrArg (fun a => some (Value.slice a _ _)) hga) rfl (by omega) (by omega)), trivial⟩ rfl rfl rfl rfl rfl rfl rfl (EV.storeO (vs := [I (iAt y.l y.j)]) 0 rfl rfl rfl hga ya_tz3 rfl (by simp; omega) rfl) (fun _ => ?_)
        refine AR.done [16, 2, 3, 4] rfl ?_
        refine AR.last [] [0, 1, 2, 3, 4, 5, 6, 7, 8, 9, 10, 11, 12, 13, 14, 15, 16, 17] trivial rfl rfl rfl ?_
        refine NX.sub (E' := [(0, _), (1, _), (2, _), (6, _), (7, _), (16, _), (17, _), (18, _), (19, _), (20, _), (21, _), (22, _), (23, _), (24, _), (25, _), (26, _), (27, _), (28, _), (29, _), (30, _), (33, _), (34, _), (35, _), (36, _), (37, _), (38, _), (39, _), (40, _), (41, _), (42, _), (43, _), (44, _), (45, _), (46, _), (47, _), (48, _)]) ⟨rfl, rfl, rfl, rfl, rfl, rfl, rfl, rfl, rfl, rfl, rfl, rfl, rfl, rfl, rfl, rfl, rfl, rfl, rfl, rfl, rfl, rfl, rfl, rfl, rfl, rfl, rfl, rfl, rfl, rfl, rfl, rfl, rfl, rfl, rfl, rfl, trivial⟩ ?_
        refine NX.off ?_
        refine NX.seq ?_
        refine TR.region ?_
        refine RL.move rfl rfl rfl ?_
        refine RL.bin rfl rfl rfl (BinV.sub _ rfl (by omega) (by omega)) rfl ?_
        refine RL.assign rfl rfl rfl ?_
        refine RL.nil ?_
        refine NX.roundP ⟨swp y.l y.j, y.j - 1⟩ ⟨(swp_len _ _).trans hy.1, (swp_perm (by omega) hj0).trans hy.2.1, by show y.j - 1 ≤ _; omega, hy.2.2.2.step (by omega) hy.2.2.1 hj0 hlt⟩ (by show y.j - 1 < y.j; omega) ⟨rfl, rfl, rfl, rfl, ?_, trivial⟩ (fun w hw => ?_)
        · show some (I ((y.j : Int) - 1)) = some (I ((y.j - 1 : Nat) : Int)); congr 2; omega
        · have h9 := hw
          have e1 := ints_set (l := y.l) (v := (y.j : Int)) (x := iAt y.l (y.j - 1)) y.j (by omega) (by omega)
          have e2 := ints_set (l := y.l.set y.j (iAt y.l (y.j - 1))) (v := (y.j : Int) - 1) (x := iAt y.l y.j) (y.j - 1) (by omega) (by rw [List.length_set]; omega)
          show St w (OwnSl 3 1 oa l0.length c (ints (swp y.l y.j)) :: M) F
          unfold swp
          rw [← e2, ← e1]
          exact hw
      · skip
        have hs : y.j = 0 ∨ ¬ iAt y.l y.j < iAt y.l (y.j - 1) := Or.inr (of_decide_eq_false h3)
        refine TR.exit ?_
        refine NX.exitThen ?_
        refine NX.exitThen ?_
        refine NX.exitHere ?_
        refine NX.off ?_
        refine NX.seq ?_
        refine TR.region ?_
        refine RL.move rfl rfl rfl ?_
        refine RL.bin rfl rfl rfl (BinV.add _ rfl (by omega) (by omega)) rfl ?_
        refine RL.assign rfl rfl rfl ?_
        refine RL.nil ?_
        refine NX.roundP ⟨y.l, x.j + 1⟩ ⟨hy.1, hy.2.1, by show 1 ≤ x.j + 1; omega, hy.2.2.2.stop hy.2.2.1 hs⟩ (by show l0.length + 1 - (x.j + 1) < l0.length + 1 - x.j; omega) ⟨rfl, rfl, rfl, rfl, trivial⟩ (fun w hw => hw)
  · skip
    have hi : ¬ x.j < l0.length := by have := of_decide_eq_false h1; omega
    refine TR.exit ?_
    refine NX.exitThen ?_
    refine NX.exitThen ?_
    refine NX.exitHere ?_
    refine NX.end0 (⟨x.l, hx.2.1, ?_⟩ : {l : List Int // l.Perm l0 ∧ Ord l l0.length}) rfl rfl (fun w hw => hw)
    exact fun p q h1 h2 => hx.2.2.2 p q h1 (by omega)
end Go.Proofs.YtdnjoffkanjjhaaGreatDoor

namespace Go.Proofs.YtdnjoffkanjjhaaGreatDoor
open Go.GL
set_option linter.unusedVariables false
theorem pdq_spec {l0 : List Int} {oa : Option Addr} {c : Nat} {n : Int} {M : List HP} {F : List Fact} (h12 : l0.length ≤ 12) (hl : l0.length ≤ 4611686018427387904) : Ctr Tryz.prog 68 [.slice oa l0.length c, I 0, I (l0.length : Nat), I n] (OwnSl 3 1 oa l0.length c (ints l0) :: M) F {l : List Int // l.Perm l0 ∧ Ord l l0.length} (fun _ => .tuple #[]) (fun z => OwnSl 3 1 oa l0.length c (ints z.1) :: M) (fun _ => F) := by
  refine Ctr.body Tryz.func68 rfl rfl ?_
  refine TR.seq ?_
  refine TR.region ?_
  refine RL.assign rfl rfl rfl ?_
  refine RL.nil ?_
  refine NX.seq ?_
  refine TR.seq ?_
  refine TR.region ?_
  refine RL.assign rfl rfl rfl ?_
  refine RL.nil ?_
  refine NX.seq ?_
  refine TR.block ?_
  refine TR.loopP (ι := Nat) (fun k => k ≤ 0) (fun _ => [(0, .slice oa l0.length c), (1, I 0), (2, I (l0.length : Nat))]) (fun _ => OwnSl 3 1 oa l0.length c (ints l0) :: M) (fun _ => F) (fun k => k) 0 (Nat.le_refl _) ⟨rfl, rfl, rfl, trivial⟩ (fun w hw => hw) (fun k hk => ?_)
  refine TR.block ?_
  refine TR.seq ?_
  refine TR.region ?_
  refine RL.move rfl rfl rfl ?_
  refine RL.move rfl rfl rfl ?_
  refine RL.bin rfl rfl rfl (BinV.sub _ rfl (by omega) (by omega)) rfl ?_
  refine RL.assign rfl rfl rfl ?_
  refine RL.nil ?_
  refine NX.seq ?_
  refine TR.seq ?_
  refine TR.seq ?_
  refine TR.region ?_
  refine RL.move rfl rfl rfl ?_
  refine RL.bin rfl rfl rfl (BinV.to (d := true) BinV.leq (decide_eq_true (by omega))) rfl ?_
  refine RL.nil ?_
  refine NX.seq ?_
  refine TR.condT rfl ?_
  refine TR.seq ?_
  refine TR.region ?_
  refine RL.move rfl rfl rfl ?_
  refine RL.move rfl rfl rfl ?_
  refine RL.move rfl rfl rfl ?_
  refine RL.call rfl rfl Tryz.call79 rfl (isort_spec hl) (fun z => ?_)
  refine RL.nil ?_
  refine NX.seq ?_
  refine TR.ret ?_
  refine NX.retThen ?_
  refine NX.retBlock ?_
  refine NX.retThen ?_
  refine NX.retBlock ?_
  exact NX.ret0 z rfl rfl (fun w hw => hw)
end Go.Proofs.YtdnjoffkanjjhaaGreatDoor

namespace Go.GL
set_option linter.unusedVariables false
def IterG (P : Program) (gf : FuncId) (cap : List Value) {α : Type} (enc : α → List Value → Prop) (step : List α → α → Prop) (fin : List α → Prop) (L0 : List HP) (F : List Fact) : Prop :=
  ∀ (l : Nat) (J : List α → List HP),
    (∀ pre x args, step pre x → enc x args → ∀ Mi G, (∀ φ, φ ∈ F → φ ∈ G) → YSpec P l args (J pre ++ Mi) G (J (pre ++ [x]) ++ Mi)) →
    ∀ Mi G, (∀ φ, φ ∈ F → φ ∈ G) → Ctr P gf (.func (.yield l) #[] #[] :: cap) (J [] ++ (L0 ++ Mi)) G {xs : List α // fin xs} (fun _ => .tuple #[]) (fun xs => J xs.1 ++ (L0 ++ Mi)) (fun _ => G)
section
variable {P : Program} {r : Option Nat} {N : Nat} {ops : Array Oper} {rest : List Oper} {Q : Exit → Act → World → Prop} {E : Env} {ds : List Deferred} {M : List HP} {F : List Fact}
theorem TR.rangeFuncG {α : Type} {g : Operand} {ps : List Nat} {assign body : Code} {gf : FuncId} {cap : List Value} {enc : α → List Value → Prop} {step : List α → α → Prop} {fin : List α → Prop} {L0 : List HP} {κ : Type}
    (hg : evalO E g = some (.func (.func gf) #[] cap.toArray)) (hcall : ∀ args w, (callFunc gf args).run P w = .ok (.enter gf args) w) (hps : ∀ p, p ∈ ps → Nat.ble (p + 1) N = true) (hlen : ∀ x args, enc x args → args.length = ps.length)
    (hit : IterG P gf cap enc step fin L0 F) (J : List α → List HP) (Mr : List HP) (hJ : ∀ w, St w M F → St w (J [] ++ (L0 ++ Mr)) F)
    (E1 : List α → α → List Value → κ → Env) (M1 : List α → α → List Value → κ → List HP)
    (hassign : ∀ l pre x args, step pre x → enc x args → ∀ Mi G, (∀ φ, φ ∈ F → φ ∈ G) →
      TR P (some l) N assign (Exit.then (fun a w => ∃ i, Sat N (E1 pre x args i) [] a ∧ St w (M1 pre x args i ++ Mi) G) (fun _ _ _ => False)) (envAt ps args E) [] (J pre ++ Mi) G)
    (hbody : ∀ l pre x args i, step pre x → enc x args → ∀ Mi G, (∀ φ, φ ∈ F → φ ∈ G) →
      TR P (some l) N body (RoundQ (J (pre ++ [x]) ++ Mi) G) (E1 pre x args i) [] (M1 pre x args i ++ Mi) G)
    (k : ∀ xs, fin xs → ∀ D, NX N .normal Q E ({ target := .collected D, args := #[] } :: ds) (Pts D (.deferred (some [])) :: (J xs ++ (L0 ++ Mr))) F) :
    TR P none N (.rangeFunc g ps.toArray assign body) Q E ds M F := by
  intro a w ha hw
  refine wpIn_rangeFunc fun fn _ => ?_
  obtain ⟨rec, hrec⟩ : ∃ rec : LoopState → Option Code → Loop, rec = fun st pe => { state := st, pending := pe, fn, tmps := a.tmps, params := ps.toArray, assign, body, defers := w.heap.size } := ⟨_, rfl⟩
  obtain ⟨W1, hW1⟩ : ∃ W1, W1 = (w.alloc (.deferred (some []))).alloc (.loop (rec .ready none)) := ⟨_, rfl⟩
  have h1 : St W1 (Pts (w.heap.size + 1) (.loop (rec .ready none)) :: Pts w.heap.size (.deferred (some [])) :: (J [] ++ (L0 ++ Mr))) F := by
    have := ((hJ w hw).alloc (.deferred (some []))).alloc (.loop (rec .ready none))
    rw [World.size_alloc] at this
    rw [hW1]
    exact this
  refine ⟨w.heap.size + 1, [{ target := .collected w.heap.size, args := #[] }], W1, { target := .fn (.func gf) cap.toArray, args := #[.func (.yield (w.heap.size + 1)) #[] #[]] }, W1, gf,
    (.func (.yield (w.heap.size + 1)) #[] #[] :: cap).toArray, W1, ?_, ?_, fun _ _ => trivial, ?_, fun h => by simp at h, ?_⟩
  · rw [hW1, hrec]; exact run_enterLoop_outer _ _ _ _ _
  · have e0 := ha.eval hg
    have e1 : a.eval (.const (.func (.yield (w.heap.size + 1)) #[] #[])) = .func (.yield (w.heap.size + 1)) #[] #[] := rfl
    simp only [resolve, e0, Deferred.ofValue]
    simp [e1]
  · simp [invoke, hcall]
  · have hJ' := hit (w.heap.size + 1) (fun pre => Pts (w.heap.size + 1) (.loop (rec .ready none)) :: J pre) ?_ (Pts w.heap.size (.deferred (some [])) :: Mr) F (fun _ h => h)
    · have hp : ∀ (r : HP) (L : List HP), (r :: Pts w.heap.size (.deferred (some [])) :: (L ++ (L0 ++ Mr))).Perm ((r :: L) ++ (L0 ++ (Pts w.heap.size (.deferred (some [])) :: Mr))) := fun r L => by
        refine List.Perm.cons r ((List.perm_middle.symm).trans ?_)
        exact List.Perm.append_left L List.perm_middle.symm
      obtain ⟨hF, hc⟩ := hJ' _ (h1.perm (hp _ _))
      refine ⟨hF, fun cs hr => ?_⟩
      obtain ⟨e, w', fr, ⟨xs, he, hst⟩, rest'⟩ := hc cs hr
      subst he
      refine ⟨_, w', fr, ?_, rest'⟩
      have hst' := hst.perm (hp _ _).symm
      have hl := hst'.heap (i := 0) rfl
      refine ⟨none, _, by have := run_endLoop (P := P) hl (by rw [hrec]; simp); rw [hrec] at this; exact this, ?_⟩
      exact k xs.1 xs.2 w.heap.size _ _ (ha.ends _) ((hst'.putObj (i := 0) rfl).tail) |> fun h => by rw [ha.defers]; exact h
    · intro pre x args hx he Mi G hG W hW
      have hW : St W (Pts (w.heap.size + 1) (.loop (rec .ready none)) :: (J pre ++ Mi)) G := hW
      have hl := hW.heap (i := 0) rfl
      have hy := run_yield (P := P) (args := args.toArray) hl (by rw [hrec]; simp [hlen x args he])
      rw [hrec] at hy
      refine ⟨fn, _, assign, body, hy, roundIn_of_wpIn (F := Wd none) trivial ?_⟩
      have hS : Sat N (envAt ps args E) [] ⟨(ps.zip args).foldl (fun t (p, v) => t.setIfInBounds p v) a.tmps, []⟩ := Sat.params ps args (ha.ends []) hps
      have hz : ((ps.toArray.zip args.toArray).foldl (fun tmps (t, a) => tmps.setIfInBounds t a) a.tmps) = (ps.zip args).foldl (fun t (p, v) => t.setIfInBounds p v) a.tmps := by simp
      have hper : ∀ (r : HP) (L L' : List HP), (r :: (L ++ L')).Perm (L ++ (r :: L')) := fun r L L' => List.perm_middle.symm
      refine wpIn_mono (hassign (w.heap.size + 1) pre x args hx he (Pts (w.heap.size + 1) (.loop (rec .ready none)) :: Mi) G hG _ W (by simp only; rw [hz]; exact hS) (hW.perm (hper _ _ _))) ?_
      intro e a1 w1 hq
      cases e with
      | normal =>
        obtain ⟨i, hs1, hw1⟩ := hq
        have hw1' := hw1.perm (hper _ _ _).symm
        have hl1 := hw1'.heap (i := 0) rfl
        refine ⟨_, run_beginRound hl1 (by rw [hrec]), ?_⟩
        have hw2 := (hw1'.putObj (o' := .loop { rec .ready none with state := .busy }) (i := 0) rfl)
        refine wpIn_mono (hbody (w.heap.size + 1) pre x args i hx he (Pts (w.heap.size + 1) (.loop { rec .ready none with state := .busy }) :: Mi) G hG a1 _ hs1 (hw2.perm (hper _ _ _))) ?_
        intro e a3 w3 hq3
        cases e with
        | normal =>
          have hw3 : St w3 (J (pre ++ [x]) ++ (Pts (w.heap.size + 1) (.loop { rec .ready none with state := .busy }) :: Mi)) G := hq3
          have hw3' := hw3.perm (hper _ _ _).symm
          have hl3 := hw3'.heap (i := 0) rfl
          refine ⟨_, _, run_endRound none hl3, (), rfl, ?_⟩
          have := hw3'.putObj (o' := .loop { rec .ready none with state := .ready }) (i := 0) rfl
          rw [hrec] at this ⊢
          exact this
        | _ => exact hq3.elim
      | _ => exact hq.elim
end
end Go.GL

namespace Go.GL
def HP.emp : HP := ⟨fun _ K => K = [], fun h _ => h, fun h b hb => by rw [h] at hb; cases hb⟩
def nthM : List HP → Nat → HP
  | [], _ => HP.emp
  | a :: _, 0 => a
  | _ :: l, n + 1 => nthM l n
def dropM : Nat → List HP → List HP
  | 0, l => l
  | _ + 1, [] => []
  | n + 1, _ :: l => dropM n l
def pikM (M : List HP) (k : Nat) : List Nat → List HP
  | [] => dropM k M
  | i :: is => nthM M i :: pikM M k is
def nthF : List Fact → Nat → Fact
  | [], _ => ⟨fun _ _ => True, fun h _ => h⟩
  | a :: _, 0 => a
  | _ :: l, n + 1 => nthF l n
def dropF : Nat → List Fact → List Fact
  | 0, l => l
  | _ + 1, [] => []
  | n + 1, _ :: l => dropF n l
def pikF (F : List Fact) (k : Nat) : List Nat → List Fact
  | [] => dropF k F
  | i :: is => nthF F i :: pikF F k is
theorem dropM_eq : ∀ (M : List HP) (k : Nat), dropM k M = M.drop k
  | _, 0 => by simp [dropM]
  | [], _ + 1 => by simp [dropM]
  | _ :: l, k + 1 => by simp [dropM, dropM_eq l k]
theorem nthM_get : ∀ {M : List HP} {i : Nat} (h : i < M.length), nthM M i = M[i]
  | [], _, h => absurd h (by simp)
  | _ :: _, 0, _ => rfl
  | _ :: l, n + 1, h => by simp only [List.length_cons] at h; show nthM l n = _; rw [nthM_get (by omega)]; rfl
theorem nthM_big : ∀ {M : List HP} {i : Nat}, M.length ≤ i → nthM M i = HP.emp
  | [], _, _ => rfl
  | _ :: _, 0, h => absurd h (by simp)
  | _ :: l, n + 1, h => nthM_big (M := l) (by simp only [List.length_cons] at h; omega)
theorem nthF_mem (F : List Fact) (i : Nat) : nthF F i ∈ F ∨ ∀ w K, (nthF F i).p w K := by
  induction F generalizing i with
  | nil => exact .inr fun _ _ => trivial
  | cons a l ih =>
    cases i with
    | zero => exact .inl (.head _)
    | succ n => rcases ih n with h | h; exact .inl (.tail _ h); exact .inr h
theorem dropF_mem {φ : Fact} : ∀ {F : List Fact} {k : Nat}, φ ∈ dropF k F → φ ∈ F
  | _, 0, h => h
  | [], _ + 1, h => h
  | _ :: _, _ + 1, h => .tail _ (dropF_mem h)
theorem St.toF {w : World} {M : List HP} {F : List Fact} (k : Nat) (fs : List Nat) (h : St w M F) : St w M (pikF F k fs) := by
  obtain ⟨K, ho, hn, hf⟩ := h
  refine ⟨K, ho, hn, ?_⟩
  induction fs with
  | nil => exact fun φ hφ => hf φ (dropF_mem hφ)
  | cons i is ih =>
    intro φ hφ
    rcases List.mem_cons.1 hφ with e | e
    · subst e
      rcases nthF_mem F i with h | h
      · exact hf _ h
      · exact h w K
    · exact ih φ e
theorem St.emp {w : World} {M : List HP} {F : List Fact} (h : St w M F) : St w (HP.emp :: M) F := by
  obtain ⟨K, ho, hn, hf⟩ := h
  exact ⟨K, ⟨[], K, rfl, rfl, ho⟩, hn, hf⟩
theorem St.dropped {w : World} {F : List Fact} : ∀ {A B : List HP}, St w (A ++ B) F → St w B F
  | [], _, h => h
  | _ :: A, B, h => St.dropped (A := A) (B := B) (by simpa using h.tail)
def okM (k : Nat) : List Nat → Bool
  | [] => true
  | i :: is => Nat.blt i k && !(is.any fun j => Nat.beq i j) && okM k is
theorem okM_is {k : Nat} : ∀ {is : List Nat}, okM k is = true → is.Nodup ∧ ∀ i, i ∈ is → i < k
  | [], _ => ⟨List.nodup_nil, fun _ h => absurd h (by simp)⟩
  | i :: is, h => by
    simp only [okM, Bool.and_eq_true] at h
    obtain ⟨h1, h2⟩ := okM_is h.2
    have h3 : i ∉ is := by
      intro hm
      have : is.any (fun j => Nat.beq i j) = true := List.any_eq_true.2 ⟨i, hm, Nat.beq_refl i⟩
      rw [this] at h
      exact absurd h.1.2 (by simp)
    refine ⟨List.nodup_cons.2 ⟨h3, h1⟩, fun j hj => ?_⟩
    rcases List.mem_cons.1 hj with e | e
    · subst e
      have := h.1.1
      simpa [Nat.blt_eq] using this
    · exact h2 j e
theorem range_map_get (M : List HP) (k : Nat) (hk : k ≤ M.length) : (List.range k).map (nthM M) = M.take k := by
  apply List.ext_getElem (by simp; omega)
  intro i h1 h2
  simp at h1
  simp [nthM_get (show i < M.length by omega)]
theorem pickM_eq (M : List HP) (k : Nat) : ∀ (is : List Nat), pikM M k is = is.map (nthM M) ++ M.drop k
  | [] => by simp [pikM, dropM_eq]
  | i :: is => by simp [pikM, pickM_eq M k is]
theorem nodup_subperm {is : List Nat} {k : Nat} (h1 : is.Nodup) (h2 : ∀ i, i ∈ is → i < k) : ∃ js, (is ++ js).Perm (List.range k) := by
  refine ⟨(List.range k).filter (fun j => decide (j ∉ is)), ?_⟩
  have hn : (is ++ (List.range k).filter (fun j => decide (j ∉ is))).Nodup := by
    refine List.nodup_append.2 ⟨h1, (List.nodup_range).sublist List.filter_sublist, ?_⟩
    intro a ha b hb e
    subst e
    have := (List.mem_filter.1 hb).2
    simp at this
    exact this ha
  refine (List.perm_ext_iff_of_nodup hn List.nodup_range).2 fun a => ?_
  constructor
  · intro h
    rcases List.mem_append.1 h with h | h
    · exact List.mem_range.2 (h2 a h)
    · exact (List.mem_filter.1 h).1
  · intro h
    by_cases ha : a ∈ is
    · exact List.mem_append.2 (.inl ha)
    · exact List.mem_append.2 (.inr (List.mem_filter.2 ⟨h, by simpa using ha⟩))
theorem St.pad {w : World} {M : List HP} {F : List Fact} (k : Nat) (h : St w M F) : St w ((List.range k).map (nthM M) ++ M.drop k) F := by
  by_cases hk : k ≤ M.length
  · rw [range_map_get M k hk, List.take_append_drop]; exact h
  · have e1 : (List.range k).map (nthM M) = M ++ List.replicate (k - M.length) HP.emp := by
      apply List.ext_getElem (by simp; omega)
      intro i h1 h2
      simp at h1
      by_cases hi : i < M.length
      · simp [List.getElem_append_left hi, nthM_get hi]
      · rw [List.getElem_append_right (by omega)]
        simp [nthM_big (M := M) (i := i) (by omega)]
    rw [e1, List.drop_eq_nil_of_le (by omega), List.append_nil]
    have : ∀ n, St w (List.replicate n HP.emp ++ M) F := by
      intro n
      induction n with
      | zero => simpa using h
      | succ n ih => simpa [List.replicate_succ] using ih.emp
    exact (this _).perm List.perm_append_comm
theorem St.toM {w : World} {M : List HP} {F : List Fact} (k : Nat) (is : List Nat) (ok : okM k is = true) (h : St w M F) : St w (pikM M k is) F := by
  obtain ⟨h1, h2⟩ := okM_is ok
  obtain ⟨js, hp⟩ := nodup_subperm h1 h2
  rw [pickM_eq]
  have h3 := h.pad k
  have h4 : ((List.range k).map (nthM M) ++ M.drop k).Perm (js.map (nthM M) ++ (is.map (nthM M) ++ M.drop k)) := by
    have := (hp.map (nthM M)).symm
    rw [List.map_append] at this
    refine (this.append_right _).trans ?_
    rw [← List.append_assoc]
    exact List.perm_append_comm.append_right _
  exact St.dropped (h3.perm h4)
theorem St.to {w : World} {M : List HP} {F : List Fact} (k : Nat) (is : List Nat) (kf : Nat) (fs : List Nat) (ok : okM k is = true) (h : St w M F) : St w (pikM M k is) (pikF F kf fs) := (h.toM k is ok).toF kf fs
theorem Ctr.pick {P : Program} {f : FuncId} {args : List Value} {M : List HP} {F : List Fact} {ι : Type} {val : ι → Value} {M' : ι → List HP} {F' : ι → List Fact} (k : Nat) (is : List Nat) (ok : okM k is = true)
    (h : Ctr P f args (pikM M k is) F ι val M' F') : Ctr P f args M F ι val M' F' := fun w hw => h w (hw.toM k is ok)
section
variable {P : Program} {r : Option Nat} {N : Nat} {ops : Array Oper} {rest : List Oper} {Q : Exit → Act → World → Prop} {E : Env} {ds : List Deferred} {M : List HP} {F : List Fact}
theorem RL.pick (k : Nat) (is : List Nat) (ok : okM k is = true) (h : RL P r N ops rest Q E ds (pikM M k is) F) : RL P r N ops rest Q E ds M F := RL.weak (fun _ hw => hw.toM k is ok) h
theorem TR.pick {c : Code} (k : Nat) (is : List Nat) (ok : okM k is = true) (h : TR P r N c Q E ds (pikM M k is) F) : TR P r N c Q E ds M F := TR.weak (fun _ hw => hw.toM k is ok) h
theorem RL.to (k : Nat) (is : List Nat) (kf : Nat) (fs : List Nat) (ok : okM k is = true) (h : RL P r N ops rest Q E ds (pikM M k is) (pikF F kf fs)) : RL P r N ops rest Q E ds M F := RL.weak (fun _ hw => hw.to k is kf fs ok) h
theorem TR.to {c : Code} (k : Nat) (is : List Nat) (kf : Nat) (fs : List Nat) (ok : okM k is = true) (h : TR P r N c Q E ds (pikM M k is) (pikF F kf fs)) : TR P r N c Q E ds M F := TR.weak (fun _ hw => hw.to k is kf fs ok) h
end
def Al (L : List HP) : HP where
  p w K := Own w L K
  loc := Own.loc
  lt := Own.lt
theorem St.alOpen {w : World} {L M : List HP} {F : List Fact} (h : St w (Al L :: M) F) : St w (L ++ M) F := by
  obtain ⟨K, ⟨K1, K2, e, h1, h2⟩, hn, hf⟩ := h
  exact ⟨K, Own.append.2 ⟨K1, K2, e, h1, h2⟩, hn, hf⟩
theorem St.alClose {w : World} {L M : List HP} {F : List Fact} (h : St w (L ++ M) F) : St w (Al L :: M) F := by
  obtain ⟨K, ho, hn, hf⟩ := h
  obtain ⟨K1, K2, e, h1, h2⟩ := Own.append.1 ho
  exact ⟨K, ⟨K1, K2, e, h1, h2⟩, hn, hf⟩
theorem St.alSnoc {w : World} {L M : List HP} {r : HP} {F : List Fact} (h : St w (r :: Al L :: M) F) : St w (Al (L ++ [r]) :: M) F := by
  refine St.alClose ?_
  have h1 := St.alOpen (h.perm (.swap _ _ _))
  rw [List.append_assoc]
  exact h1
theorem St.alNil {w : World} {M : List HP} {F : List Fact} (h : St w M F) : St w (Al [] :: M) F := St.alClose h
theorem St.alCut {w : World} {L M : List HP} {F : List Fact} (i : Nat) (hi : i < L.length) (h : St w (Al L :: M) F) : St w (L[i] :: Al (L.take i) :: Al (L.drop (i + 1)) :: M) F := by
  have h1 := St.alOpen h
  have e : L ++ M = L.take i ++ (L[i] :: (L.drop (i + 1) ++ M)) := by
    have e2 : L = L.take i ++ (L[i] :: L.drop (i + 1)) := by rw [← List.drop_eq_getElem_cons hi, List.take_append_drop]
    exact (congrArg (· ++ M) e2).trans (by simp only [List.append_assoc, List.cons_append])
  rw [e] at h1
  have h2 : St w (L[i] :: (L.take i ++ (L.drop (i + 1) ++ M))) F := h1.perm List.perm_middle
  have h3 : St w (L.drop (i + 1) ++ (L[i] :: (L.take i ++ M))) F := h2.perm ((List.Perm.cons _ (perm_mid _ _ _)).trans List.perm_middle.symm)
  have h4 := St.alClose h3
  have h5 : St w (L.take i ++ (L[i] :: Al (L.drop (i + 1)) :: M)) F := h4.perm (by
    refine (List.Perm.swap _ _ _).trans ?_
    refine (List.Perm.cons _ (List.perm_middle.symm)).trans ?_
    exact List.perm_middle.symm)
  exact (St.alClose h5).perm (.swap _ _ _)
theorem St.alJoin {w : World} {L1 L2 M : List HP} {r : HP} {F : List Fact} (h : St w (r :: Al L1 :: Al L2 :: M) F) : St w (Al (L1 ++ r :: L2) :: M) F := by
  refine St.alClose ?_
  have h1 : St w (L1 ++ (r :: Al L2 :: M)) F := St.alOpen (h.perm (.swap _ _ _))
  have h2 : St w (Al L2 :: (L1 ++ (r :: M))) F := h1.perm ((List.Perm.append_left _ (.swap _ _ _)).trans List.perm_middle)
  have h3 : St w (L2 ++ (L1 ++ (r :: M))) F := St.alOpen h2
  rw [List.append_assoc]
  have h4 : St w (L1 ++ (L2 ++ (r :: M))) F := h3.perm (perm_mid _ _ _)
  exact h4.perm (List.Perm.append_left L1 List.perm_middle)
end Go.GL

namespace Go.GL
set_option linter.unusedVariables false
def vB (fs : Fs) (n : Nat) : List UInt8 := (fget fs n).b
def vD (fs : Fs) (n : Nat) : Nat := (fget fs n).dur
def filesB (B : Nat → List UInt8) : List Nat := (List.range 64).filter fun n => !(B n).isEmpty
def keepK (keep : List Int) (i room : Nat) : Nat := match keep[i]? with
  | some k => (max 0 (min k (room : Int))).toNat
  | none => 0
theorem keepK_le (keep : List Int) (i room : Nat) : keepK keep i room ≤ room := by
  unfold keepK; split <;> omega
def cutB (B : Nat → List UInt8) (D : Nat → Nat) (keep : List Int) (n : Nat) : List UInt8 := (B n).take (D n + keepK keep ((filesB B).idxOf n) ((B n).length - D n))
def looseB (B : Nat → List UInt8) (D : Nat → Nat) (keep : List Int) : List (Nat × Nat) := (filesB B).flatMap fun n => (List.range' (D n) ((cutB B D keep n).length - D n)).map fun j => (n, j)
def flipB (x : UInt8) (r : Nat) : UInt8 := UInt8.ofNat (x.toNat ^^^ 2 ^ (7 - r))
def turnB (b : List UInt8) (j r : Nat) : List UInt8 := b.set j (flipB (b.getD j 0) r)
def crashB (B : Nat → List UInt8) (D : Nat → Nat) (keep : List Int) (flip : Int) (n : Nat) : List UInt8 :=
  if flip < 0 then cutB B D keep n else
  match (looseB B D keep)[flip.toNat % (8 * (looseB B D keep).length) / 8]? with
  | some (m, j) => if n = m then turnB (cutB B D keep n) j (flip.toNat % (8 * (looseB B D keep).length) % 8) else cutB B D keep n
  | none => cutB B D keep n
theorem cutB_len (B : Nat → List UInt8) (D : Nat → Nat) (keep : List Int) (n : Nat) : (cutB B D keep n).length ≤ (B n).length := by
  unfold cutB; rw [List.length_take]; omega
theorem turnB_len (b : List UInt8) (j r : Nat) : (turnB b j r).length = b.length := by unfold turnB; rw [List.length_set]
theorem crashB_len (B : Nat → List UInt8) (D : Nat → Nat) (keep : List Int) (flip : Int) (n : Nat) : (crashB B D keep flip n).length = (cutB B D keep n).length := by
  unfold crashB
  split
  · rfl
  · split
    · split
      · rw [turnB_len]
      · rfl
    · rfl
structure CrashR (s : Ds) (keep : List Int) (flip : Int) (t : Ds) : Prop where
  m : t.m = s.m
  room : t.room = s.room
  off : t.off = false
  armed : t.armed = false
  left : t.left = s.left
  ok : OkF t.fs
  b : ∀ n, n < 64 → vB t.fs n = crashB (vB s.fs) (vD s.fs) keep flip n
  d : ∀ n, n < 64 → vD t.fs n = (vB t.fs n).length
structure CrR where
  n : Nat
  b : List UInt8
  d : Nat
  oa : Option Addr
  c : Nat
def CrR.f (r : CrR) : Fl := ⟨r.b, r.d, r.oa, r.c⟩
def crOwn (e : Nat) (r : CrR) : HP := OwnSl e 1 r.oa r.b.length r.c (bytesV r.b)
def crPtr (r : CrR) (j : Nat) : Value := .pointer (r.oa.map fun a => a.add (j * 1))
def crLoose (rs : List CrR) : List (CrR × Nat) := rs.flatMap fun r => (List.range' r.d (r.b.length - r.d)).map fun j => (r, j)
def crPtrs (rs : List CrR) : List Value := (crLoose rs).map fun x => crPtr x.1 x.2
theorem crLoose_snoc (rs : List CrR) (r : CrR) : crLoose (rs ++ [r]) = crLoose rs ++ (List.range' r.d (r.b.length - r.d)).map fun j => (r, j) := by
  unfold crLoose; rw [List.flatMap_append]; simp
theorem crLoose_mem {rs : List CrR} {x : CrR × Nat} (h : x ∈ crLoose rs) : x.1 ∈ rs ∧ x.1.d ≤ x.2 ∧ x.2 < x.1.b.length := by
  obtain ⟨r, hr, hx⟩ := List.mem_flatMap.1 h
  obtain ⟨j, hj, rfl⟩ := List.mem_map.1 hx
  have := List.mem_range'_1.1 hj
  exact ⟨hr, this.1, by have := this.2; show j < r.b.length; omega⟩
structure CrSt (s : Ds) (keep : List Int) (i : Nat) (fs : Fs) (rs : List CrR) : Prop where
  ok : OkF fs
  len : rs.length = i
  n : rs.map CrR.n = (filesB (vB s.fs)).take i
  b : ∀ r, r ∈ rs → r.b = cutB (vB s.fs) (vD s.fs) keep r.n ∧ r.d = vD s.fs r.n ∧ r.d ≤ r.b.length ∧ r.b.length ≤ r.c
  done : ∀ r, r ∈ rs → fget fs r.n = (if r.b = [] then fl0 else r.f)
  rest : ∀ k : Nat, k ∉ rs.map CrR.n → fget fs k = fget s.fs k
end Go.GL

namespace Go.GL
structure Ed where
  f : Int
  t : Int
  x : List UInt8
abbrev Ed.c (e : Ed) : List Value := [I e.f, I e.t, S e.x]
def edC : List Ed → List Value
  | [] => []
  | e :: es => e.c ++ edC es
theorem edC_length : ∀ es : List Ed, (edC es).length = es.length * 3
  | [] => rfl
  | e :: es => by rw [edC, List.length_append, edC_length es]; simp; omega
theorem edC_at : ∀ {es : List Ed} {k j : Nat} {v : Value} (h : k < es.length), (es[k].c)[j]? = some v → (edC es)[k * 3 + j]? = some v
  | e :: es, 0, j, v, h, hv => by
    rw [edC, Nat.zero_mul, Nat.zero_add, List.getElem?_append_left (by have := (List.getElem?_eq_some_iff.1 hv).1; simpa using this)]
    exact hv
  | e :: es, k + 1, j, v, h, hv => by
    rw [edC, List.getElem?_append_right (by simp; omega)]
    have := edC_at (es := es) (k := k) (j := j) (v := v) (by simpa using h) hv
    rw [← this]
    congr 1
    simp; omega
theorem edC_append : ∀ a b : List Ed, edC (a ++ b) = edC a ++ edC b
  | [], b => rfl
  | e :: es, b => by rw [List.cons_append, edC, edC, edC_append es b, List.append_assoc]
theorem run_ed {P : Program} {w : World} {K : List Nat} {b off T k : Nat} {es : List Ed} (h : CellsAt w K b off (edC es)) (ht : tyAgg P T 3 = true) (hk : k < es.length) : Reads P w T ⟨b, off + (k : Int).toNat * 3, none⟩ (.agg (es[k].c).toArray) := by
  refine run_loadVar_agg ht rfl fun j v hv => ?_
  rw [addr_add, Nat.add_assoc]
  exact h.2.2 _ v (edC_at hk hv)
def sound1 (size : Int) : Int → List Ed → Int
  | _, [] => 0
  | last, e :: es => if e.f < 0 ∨ e.t < e.f ∨ size < e.t then 5 else if e.f < last then 1 else sound1 size e.t es
def soundE (size : Int) (es : List Ed) : Int := if 64 < es.length then 4 else sound1 size 0 es
theorem sound1_cons {size last : Int} {e : Ed} {es : List Ed} (h : sound1 size last (e :: es) = 0) : 0 ≤ e.f ∧ e.f ≤ e.t ∧ e.t ≤ size ∧ last ≤ e.f ∧ sound1 size e.t es = 0 := by
  rw [sound1] at h
  by_cases h1 : e.f < 0 ∨ e.t < e.f ∨ size < e.t
  · rw [if_pos h1] at h; exact absurd h (by decide)
  · rw [if_neg h1] at h
    by_cases h2 : e.f < last
    · rw [if_pos h2] at h; exact absurd h (by decide)
    · rw [if_neg h2] at h
      exact ⟨by omega, by omega, by omega, by omega, h⟩
theorem sound1_bad {size last : Int} {e : Ed} {es : List Ed} (h1 : e.f < 0 ∨ e.t < e.f ∨ size < e.t) : sound1 size last (e :: es) = 5 := by rw [sound1, if_pos h1]
theorem sound1_low {size last : Int} {e : Ed} {es : List Ed} (h1 : ¬ (e.f < 0 ∨ e.t < e.f ∨ size < e.t)) (h2 : e.f < last) : sound1 size last (e :: es) = 1 := by rw [sound1, if_neg h1, if_pos h2]
theorem sound1_on {size last : Int} {e : Ed} {es : List Ed} (h1 : ¬ (e.f < 0 ∨ e.t < e.f ∨ size < e.t)) (h2 : ¬ e.f < last) : sound1 size last (e :: es) = sound1 size e.t es := by rw [sound1, if_neg h1, if_neg h2]
def applyGo (s : List UInt8) : Nat → List Ed → List UInt8
  | q, [] => s.drop q
  | q, e :: es => (s.take e.f.toNat).drop q ++ (e.x ++ applyGo s e.t.toNat es)
def applyE (s : List UInt8) (es : List Ed) : List UInt8 × Int := if soundE s.length es = 0 then (applyGo s 0 es, 0) else ([], soundE s.length es)
theorem soundE_sound1 {size : Int} {es : List Ed} (h : soundE size es = 0) : sound1 size 0 es = 0 := by
  unfold soundE at h
  split at h
  · exact absurd h (by decide)
  · exact h
end Go.GL

namespace Go.GL
set_option linter.unusedVariables false
def isCont (s : List UInt8) (b : Nat) : Prop := ∃ c, s[b]? = some c ∧ 128 ≤ c.toNat ∧ c.toNat < 192
def IsB (s : List UInt8) (b : Nat) : Prop := b = 0 ∨ s.length ≤ b ∨ ¬ isCont s b
def SoundTo (n : Int) (es : List Ed) (q : Int) : Prop := ∀ rest, sound1 n 0 (es ++ rest) = sound1 n q rest
theorem SoundTo.nil (n : Int) : SoundTo n [] 0 := fun _ => rfl
theorem SoundTo.snoc {n : Int} {es : List Ed} {q : Int} (h : SoundTo n es q) {e : Ed} (h0 : 0 ≤ q) (h1 : q ≤ e.f) (h2 : e.f ≤ e.t) (h3 : e.t ≤ n) : SoundTo n (es ++ [e]) e.t := fun rest => by
  rw [List.append_assoc, h, List.cons_append, List.nil_append, sound1_on (by omega) (by omega)]
theorem SoundTo.sound {n : Int} {es : List Ed} {q : Int} (h : SoundTo n es q) : sound1 n 0 es = 0 := by
  have := h []
  rw [List.append_nil] at this
  rw [this]; rfl
def Grow (k : Nat) (e : Ed) : Prop := (e.x.length : Int) ≤ e.t - e.f + k
def txs (es : List Ed) : Nat := (es.map fun e => e.x.length).sum
theorem apply_len {s : List UInt8} {k : Nat} : ∀ {es : List Ed} {q : Nat}, q ≤ s.length → sound1 s.length q es = 0 → (∀ e, e ∈ es → Grow k e) → (applyGo s q es).length ≤ s.length - q + k * es.length ∧ txs es ≤ s.length - q + k * es.length
  | [], q, hq, _, _ => by simp [applyGo, txs]
  | e :: es, q, hq, hs, hg => by
    obtain ⟨h1, h2, h3, h4, h5⟩ := sound1_cons hs
    have hg1 := hg e (.head _)
    unfold Grow at hg1
    have ht : ((e.t.toNat : Nat) : Int) = e.t := Int.toNat_of_nonneg (by omega)
    have ih := apply_len (s := s) (k := k) (es := es) (q := e.t.toNat) (by omega) (by rw [ht]; exact h5) (fun x hx => hg x (.tail _ hx))
    have e1 : txs (e :: es) = e.x.length + txs es := by simp [txs]
    rw [e1, applyGo]
    simp only [List.length_append, List.length_drop, List.length_take, List.length_cons, Nat.mul_add, Nat.mul_one]
    omega
theorem mem_snoc_all {α : Type} {p : α → Prop} {l : List α} {a : α} (h : ∀ x, x ∈ l → p x) (ha : p a) : ∀ x, x ∈ l ++ [a] → p x := fun x hx => by
  rcases List.mem_append.1 hx with h1 | h1
  · exact h x h1
  · rw [List.mem_singleton.1 h1]; exact ha
def encE (e : Ed) : List UInt8 := encU (zz e.f) ++ (encU (zz e.t) ++ encR e.x)
def encL : List Ed → List UInt8
  | [] => []
  | e :: es => encE e ++ encL es
def encEs (es : List Ed) : List UInt8 := encU (zz es.length) ++ encL es
def EdOk (n : Int) (e : Ed) : Prop := 0 ≤ e.f ∧ e.f ≤ n ∧ 0 ≤ e.t ∧ e.t ≤ n
theorem sound_ok {n : Int} : ∀ {es : List Ed} {q : Int}, 0 ≤ q → sound1 n q es = 0 → ∀ e, e ∈ es → EdOk n e
  | [], _, _, _, e, he => absurd he (by simp)
  | a :: es, q, hq, hs, e, he => by
    obtain ⟨h1, h2, h3, h4, h5⟩ := sound1_cons hs
    rcases List.mem_cons.1 he with rfl | he
    · exact ⟨h1, by omega, by omega, h3⟩
    · exact sound_ok (by omega) h5 e he
theorem encL_len {n : Int} (hn : n ≤ 4611686018427387904) : ∀ {es : List Ed}, (∀ e, e ∈ es → EdOk n e ∧ e.x.length ≤ 4611686018427387904) → (encL es).length ≤ 30 * es.length + txs es
  | [], _ => by simp [encL, txs]
  | e :: es, h => by
    have ih := encL_len hn (es := es) fun x hx => h x (.tail _ hx)
    obtain ⟨⟨h1, h2, h3, h4⟩, h5⟩ := h e (.head _)
    have a1 := encU_len10 (zz_lt (n := e.f) (by omega) (by omega))
    have a2 := encU_len10 (zz_lt (n := e.t) (by omega) (by omega))
    have a3 := encU_len10 (n := e.x.length) (by omega)
    have e1 : txs (e :: es) = e.x.length + txs es := by simp [txs]
    rw [e1, encL, encE]
    unfold encR
    simp only [List.length_append, List.length_cons]
    omega
theorem encEs_len {s : List UInt8} {k : Nat} {es : List Ed} (hs : s.length ≤ 1000000) (h : sound1 s.length 0 es = 0) (hg : ∀ e, e ∈ es → Grow k e) (hk : k ≤ 1000) (hl : es.length ≤ 1000) : (encEs es).length ≤ 10 + (30 + k) * es.length + s.length := by
  have h1 := (apply_len (s := s) (k := k) (q := 0) (Nat.zero_le _) h hg).2
  have hb : k * es.length ≤ 1000000 := Nat.mul_le_mul hk hl
  have hx : ∀ es' : List Ed, ∀ e, e ∈ es' → e.x.length ≤ txs es' := by
    intro es'
    induction es' with
    | nil => intro e he; exact absurd he (by simp)
    | cons a l ih =>
      intro e he
      have e1 : txs (a :: l) = a.x.length + txs l := by simp [txs]
      rw [e1]
      rcases List.mem_cons.1 he with rfl | he
      · omega
      · have := ih e he; omega
  have h2 := encL_len (n := s.length) (by omega) (es := es) fun e he => ⟨sound_ok (Int.le_refl 0) h e he, by have := hx es e he; omega⟩
  have h3 := encU_len10 (zz_lt (n := (es.length : Int)) (by omega) (by omega))
  rw [Nat.add_mul]
  unfold encEs
  rw [List.length_append]
  omega
end Go.GL

namespace Go.GL
set_option linter.unusedVariables false
def strsV (l : List (List UInt8)) : List Value := l.map fun x => S x
theorem strs_get {l : List (List UInt8)} {k : Nat} (h : k < l.length) : (strsV l)[((k : Nat) : Int).toNat * 1]? = some (S l[k]) := by
  rw [Int.toNat_natCast, Nat.mul_one]; simp [strsV, h]
theorem short_all {l : List (List UInt8)} {n : Nat} (h : (l.all fun x => Nat.ble x.length n) = true) {k : Nat} (hk : k < l.length) : l[k].length ≤ n :=
  Nat.le_of_ble_eq_true (List.all_eq_true.1 h _ (List.getElem_mem hk))
theorem St.boxKeep {w : World} {M : List HP} {F : List Fact} {b t : Nat} {cs : List Value} (h : St w (Box b t cs :: M) F) : St w M (CellsF b 0 cs :: F) := h.keep
structure EdX where
  es : List Ed
  oa : Option Addr
  c : Nat
structure SmX where
  i : Nat
  q : Nat
  es : List Ed
  oa : Option Addr
  c : Nat
def EdsOk (tx : List UInt8) (es : List Ed) : Prop := es.length ≤ 5 ∧ sound1 tx.length 0 es = 0 ∧ ∀ e, e ∈ es → Grow 5 e
theorem EdsOk.sound {tx : List UInt8} {es : List Ed} (h : EdsOk tx es) : soundE tx.length es = 0 := by
  unfold soundE; rw [if_neg (by have := h.1; omega)]; exact h.2.1
theorem EdsOk.len {tx : List UInt8} {es : List Ed} (h : EdsOk tx es) : (applyGo tx 0 es).length ≤ tx.length + 25 := by
  have h1 := (apply_len (s := tx) (k := 5) (q := 0) (Nat.zero_le _) h.2.1 h.2.2).1
  have h2 := h.1
  omega
theorem EdsOk.enc {tx : List UInt8} {es : List Ed} (h : EdsOk tx es) (hl : tx.length ≤ 1000000) : (encEs es).length ≤ tx.length + 185 := by
  have h1 := encEs_len (s := tx) (k := 5) (es := es) hl h.2.1 h.2.2 (by decide) (by have := h.1; omega)
  have h2 := h.1
  omega
theorem cut_len {l : List UInt8} {a b : Nat} (h1 : a ≤ b) (h2 : b ≤ l.length) : ((l.take ((b : Nat) : Int).toNat).drop ((a : Nat) : Int).toNat).length = b - a := by
  rw [List.length_drop, List.length_take]; omega
theorem sm_step {tx : List UInt8} {es : List Ed} {q f t : Nat} {x : List UInt8} (h : SoundTo tx.length es q) (h1 : q ≤ f) (h2 : f ≤ t) (h3 : t ≤ tx.length) : SoundTo tx.length (es ++ [⟨f, t, x⟩]) (t : Nat) :=
  h.snoc (e := ⟨f, t, x⟩) (by omega) (by show (q : Int) ≤ f; omega) (by show (f : Int) ≤ t; omega) (by show (t : Int) ≤ _; omega)
end Go.GL

namespace Go.GL
namespace Tree
end Tree
open Tree
theorem TreesAt.at {w K} : ∀ {ts : List Tree} {cs : List Value} {k : Nat} (h : k < ts.length), TreesAt w K ts cs → cs[k * 4]? = some (I ts[k].id)
  | t :: ts, cs, 0, h, ⟨a, len, cap, rest, h1, _, _⟩ => by rw [h1]; rfl
  | t :: ts, cs, k + 1, h, ⟨a, len, cap, rest, h1, _, h3⟩ => by
    have := TreesAt.at (k := k) (by simpa using h) h3
    rw [h1, show (k + 1) * 4 = 4 + k * 4 from by omega, List.getElem?_append_right (by simp)]
    simpa using this
namespace Tree
theorem Small.zero {d : Nat} (h : 1 ≤ d) : Small d (.node 0 0 [] []) := by
  cases d with
  | zero => omega
  | succ d => exact ⟨Nat.zero_le _, Nat.zero_le _, fun _ => rfl, fun k hk => by cases hk⟩
theorem Small.pos {d : Nat} {t : Tree} (h : Small d t) : 1 ≤ d := by
  cases d with
  | zero => exact h.elim
  | succ d => omega
theorem Small.get {d : Nat} : ∀ {is : List Int} {t : Tree} {p : Nat} {k : Tree} {q : Nat}, Small d t → t.get is p = some (k, q) → Small d k
  | [], t, p, k, q, h, e => by
    rw [Tree.get] at e
    simp only [Option.some.injEq, Prod.mk.injEq] at e
    rw [← e.1]; exact h
  | i :: is, t, p, k, q, h, e => by
    rw [Tree.get] at e
    split at e
    · cases e
    · split at e
      · rename_i u hu
        cases d with
        | zero => exact h.elim
        | succ d => exact (Small.get (h.kid (List.mem_of_getElem? hu)) e).mono (by omega)
      · cases e
end Tree
def isI64t (P : Program) (t : TypeId) : Bool := match P.underlying t with | some (.int .i64) => true | _ => false
theorem isI64t_is {P : Program} {t : TypeId} (h : isI64t P t = true) : P.underlying t = some (.int .i64) := by
  unfold isI64t at h
  split at h
  · rename_i he; exact he
  · cases h
def tokOk (P : Program) (t : Nat) : Bool := match (P.fieldsOf t).toList with
  | [f0, f1, f2] => (decide (f0.name ≠ "_") && decide (f1.name ≠ "_") && decide (f2.name ≠ "_")) && (Nat.beq f0.offset 0 && Nat.beq f1.offset 1 && Nat.beq f2.offset 2) && (isI64t P f0.type && tyStr P f1.type && isI64t P f2.type)
  | _ => false
theorem part_int {P : Program} {w : World} {t off : Nat} {cs : Array Value} {v : Value} (h : P.underlying t = some (.int .i64)) (hv : cs[off]? = some v) : (part t cs off).run P w = .ok v w := by
  simp [part, isAgg, run_underlying h, hv]
theorem part_str {P : Program} {w : World} {t off : Nat} {cs : Array Value} {v : Value} (h : P.underlying t = some .string) (hv : cs[off]? = some v) : (part t cs off).run P w = .ok v w := by
  simp [part, isAgg, run_underlying h, hv]
theorem tok_neq {P : Program} {t : Nat} (hf : tokOk P t = true) (hu : P.underlying t = some (.struct (P.fieldsOf t))) (hh : P.stoodInHeld t = false) (hg : P.eqGuardType P.depth t = false) (i k : Int) (s : List UInt8) : BinV P .neq t (.agg #[I i, S s, I k]) (.agg #[I i, S s, I k]) (.bool false) := by
  refine ⟨fun w => ?_, fun ox oy w => run_eqGuard_agg w .neq t ox oy _ _ hg⟩
  rw [run_neq_struct, run_equalIn_agg w 9999 t _ _ hu hh]
  unfold tokOk at hf
  split at hf
  · rename_i f0 f1 f2 he
    simp only [Bool.and_eq_true, decide_eq_true_eq] at hf
    obtain ⟨⟨⟨⟨n0, n1⟩, n2⟩, ⟨o0, o1⟩, o2⟩, ⟨t0, t1⟩, t2⟩ := hf
    have o0 := Nat.eq_of_beq_eq_true o0
    have o1 := Nat.eq_of_beq_eq_true o1
    have o2 := Nat.eq_of_beq_eq_true o2
    have t0 := isI64t_is t0
    have t1 := tyStr_underlying t1
    have t2 := isI64t_is t2
    have e0 : ((Op.equalIn 9999 f0.type (I i) (I i)).run P w) = .ok true w := by rw [run_equalIn_int w 9998 f0.type .i64 .i64 i i t0]; simp
    have e1 : ((Op.equalIn 9999 f1.type (S s) (S s)).run P w) = .ok true w := by rw [run_equalIn_string w 9998 f1.type _ _ t1]; simp
    have e2 : ((Op.equalIn 9999 f2.type (I k) (I k)).run P w) = .ok true w := by rw [run_equalIn_int w 9998 f2.type .i64 .i64 k k t2]; simp
    have p0 : (part f0.type #[I i, S s, I k] f0.offset).run P w = .ok (I i) w := part_int t0 (by rw [o0]; rfl)
    have p1 : (part f1.type #[I i, S s, I k] f1.offset).run P w = .ok (S s) w := part_str t1 (by rw [o1]; rfl)
    have p2 : (part f2.type #[I i, S s, I k] f2.offset).run P w = .ok (I k) w := part_int t2 (by rw [o2]; rfl)
    rw [he]
    simp [Op.eqFields, n0, n1, n2, p0, p1, p2, e0, e1, e2]
  · cases hf
namespace Tree
end Tree
theorem CellsAt.sub {w : World} {K : List Nat} {b off o : Nat} {cs vs : List Value} (h : CellsAt w K b off cs) (hs : ∀ j v, vs[j]? = some v → cs[o + j]? = some v) : CellsAt w K b (off + o) vs :=
  ⟨h.1, h.2.1, fun j v hv => by rw [Nat.add_assoc]; exact h.2.2 _ v (hs j v hv)⟩
end Go.GL

namespace Go.GL
set_option linter.unusedVariables false
def cb (l : List UInt8) (i : Nat) : Nat := (l.getD i 0).toNat
def btw (l : List UInt8) (i lo hi : Nat) : Prop := i < l.length ∧ lo ≤ cb l i ∧ cb l i ≤ hi
instance (l : List UInt8) (i lo hi : Nat) : Decidable (btw l i lo hi) := by unfold btw; exact inferInstance
def secB (c : Nat) : Nat × Nat := if c = 224 then (160, 191) else if c = 237 then (128, 159) else if c = 240 then (144, 191) else if c = 244 then (128, 143) else (128, 191)
def charL (l : List UInt8) : Nat × Nat :=
  if 194 ≤ cb l 0 ∧ cb l 0 ≤ 223 ∧ btw l 1 128 191 then (2, 1)
  else if 224 ≤ cb l 0 ∧ cb l 0 ≤ 239 ∧ btw l 1 (secB (cb l 0)).1 (secB (cb l 0)).2 ∧ btw l 2 128 191 then (3, 1)
  else if 240 ≤ cb l 0 ∧ cb l 0 ≤ 244 ∧ btw l 1 (secB (cb l 0)).1 (secB (cb l 0)).2 ∧ btw l 2 128 191 ∧ btw l 3 128 191 then (4, 2)
  else (1, 1)
theorem charL_pos (l : List UInt8) : 1 ≤ (charL l).1 ∧ 1 ≤ (charL l).2 ∧ (charL l).2 ≤ (charL l).1 := by
  unfold charL; repeat' split
  all_goals simp
theorem charL_le {l : List UInt8} (h : 0 < l.length) : (charL l).1 ≤ l.length := by
  unfold charL; repeat' split
  · rename_i h1; have := h1.2.2.1; show 2 ≤ _; omega
  · rename_i h1; have := h1.2.2.2.1; show 3 ≤ _; omega
  · rename_i h1; have := h1.2.2.2.2.1; show 4 ≤ _; omega
  · show 1 ≤ _; omega
theorem cb_lt (l : List UInt8) (i : Nat) : cb l i < 256 := (l.getD i 0).toNat_lt
theorem get_cb (l : List UInt8) (pos k : Nat) : ((⟨l.toArray⟩ : ByteArray).get! (pos + k)).toNat = cb (l.drop pos) k := by
  unfold cb
  congr 1
  rw [List.getD_eq_getElem?_getD, List.getElem?_drop]
  show (l.toArray[pos + k]!) = _
  by_cases h : pos + k < l.length
  · rw [getElem!_pos _ _ (by simpa using h), List.getElem?_eq_getElem h]; simp
  · rw [getElem!_neg _ _ (by simpa using h), List.getElem?_eq_none (by omega)]; rfl
set_option maxRecDepth 20000 in
set_option maxHeartbeats 4000000 in
theorem dec_char (l : List UInt8) (pos : Nat) : (Utf8.decode ⟨l.toArray⟩ pos).2 = (charL (l.drop pos)).1 ∧ (if 65536 ≤ (Utf8.decode ⟨l.toArray⟩ pos).1 then 2 else 1) = (charL (l.drop pos)).2 ∧ ((Utf8.decode ⟨l.toArray⟩ pos).1 = 10 ↔ cb (l.drop pos) 0 = 10) ∧ (Utf8.decode ⟨l.toArray⟩ pos).1 ≤ 2147483647 := by
  refine ⟨?_, ?_, ?_, decode_le _ _⟩
  all_goals
    have e0 := get_cb l pos 0; have e1 := get_cb l pos 1; have e2 := get_cb l pos 2; have e3 := get_cb l pos 3
    have hs : (⟨l.toArray⟩ : ByteArray).size = l.length := by simp [ByteArray.size]
    have hd : (l.drop pos).length = l.length - pos := List.length_drop
    have b0 := cb_lt (l.drop pos) 0; have b1 := cb_lt (l.drop pos) 1; have b2 := cb_lt (l.drop pos) 2; have b3 := cb_lt (l.drop pos) 3
    unfold Utf8.decode
    try unfold charL btw
    dsimp only
    simp only [e0, e1, e2, e3, hs, hd]
    generalize cb (l.drop pos) 0 = c0 at *
    generalize cb (l.drop pos) 1 = c1 at *
    generalize cb (l.drop pos) 2 = c2 at *
    generalize cb (l.drop pos) 3 = c3 at *
    clear e0 e1 e2 e3 hs hd
    try unfold secB
    unfold Utf8.valid Utf8.runeError
    simp only [Bool.and_eq_true, decide_eq_true_eq, beq_iff_eq, Bool.or_eq_true]
    repeat' split
    all_goals omega
section
variable {P : Program} {r : Option Nat} {N : Nat} {ops : Array Oper} {rest : List Oper} {Q : Exit → Act → World → Prop} {E : Env} {ds : List Deferred} {M : List HP} {F : List Fact}
variable {d : Nat} {ty : TypeId} {pos : String} {aft : Array Edge} {gd : Option (Nat × Bool)}
theorem GV.rangeS {t : TypeId} {x : Operand} {l : List UInt8} (ht : tyStr P t = true) (hx : evalO E x = some (S l)) :
    GV P E M F ⟨some d, .range t x, ty, pos, aft, gd⟩ Nat (fun q => .pointer (some ⟨q, 0, none⟩)) (fun q => Pts q (.stringIter ⟨l.toArray⟩ 0) :: M) (fun _ => F) := ⟨rfl, fun ρ hρ w hw => by
  refine ⟨w.heap.size, w.iter ⟨l.toArray⟩ 0, ?_, hw.alloc _⟩
  have := run_range_string (P := P) w t ⟨l.toArray⟩ (tyStr_underlying ht)
  simp [execOp, hρ _ _ hx, this]⟩
theorem GV.nextOn {x : Operand} {q p : Nat} {l : List UInt8} (i : Nat) (hx : evalO E x = some (.pointer (some ⟨q, 0, none⟩))) (hi : M[i]? = some (Pts q (.stringIter ⟨l.toArray⟩ p))) (hp : p < l.length) :
    GV P E M F ⟨some d, .next x true, ty, pos, aft, gd⟩ Unit (fun _ => .tuple #[.bool true, I (p : Nat), .int .i32 ((Utf8.decode ⟨l.toArray⟩ p).1 : Nat)]) (fun _ => M.set i (Pts q (.stringIter ⟨l.toArray⟩ (p + (charL (l.drop p)).1)))) (fun _ => F) := ⟨rfl, fun ρ hρ w hw => by
  have hb := hw.heap hi
  have hs : (⟨l.toArray⟩ : ByteArray).size = l.length := by simp [ByteArray.size]
  have e := (dec_char l p).1
  refine ⟨(), w.putObj q (.stringIter ⟨l.toArray⟩ (p + (charL (l.drop p)).1)), ?_, hw.putObj hi⟩
  have hrun : (Instr.next (.pointer (some ⟨q, 0, none⟩)) true ty).run P w = .ok (.tuple #[.bool true, I (p : Nat), .int .i32 ((Utf8.decode ⟨l.toArray⟩ p).1 : Nat)]) (w.putObj q (.stringIter ⟨l.toArray⟩ (p + (charL (l.drop p)).1))) := by
    have hlt : q < w.heap.size := (Array.getElem?_eq_some_iff.1 hb).1
    simp only [Instr.next, getObj, setObj, Sem.run_bind, Sem.run, hb, Result.andThen, hs, hp, if_true, e]
    simp [goInt, World.putObj]
    try rfl
  simp [execOp, hρ _ _ hx, hrun]⟩
theorem GV.nextEnd {x : Operand} {q p : Nat} {l : List UInt8} (i : Nat) (hx : evalO E x = some (.pointer (some ⟨q, 0, none⟩))) (hi : M[i]? = some (Pts q (.stringIter ⟨l.toArray⟩ p))) (hp : ¬ p < l.length) :
    GV P E M F ⟨some d, .next x true, ty, pos, aft, gd⟩ Unit (fun _ => .tuple #[.bool false]) (fun _ => M) (fun _ => F) := ⟨rfl, fun ρ hρ w hw => by
  have hb := hw.heap hi
  have hs : (⟨l.toArray⟩ : ByteArray).size = l.length := by simp [ByteArray.size]
  refine ⟨(), w, ?_, hw⟩
  have hrun : (Instr.next (.pointer (some ⟨q, 0, none⟩)) true ty).run P w = .ok (.tuple #[.bool false]) w := by
    simp [Instr.next, getObj, Sem.run, hb, hs, hp]
  simp [execOp, hρ _ _ hx, hrun]⟩
end
end Go.GL

namespace Go.GL
set_option linter.unusedVariables false
theorem stepR_scope {P : Program} {b : Frame} {a : Act} {k : List Item} {cs : List Frame} {w : World} {c : Code} : step P (lone (b.atR a (.code (.scope c) :: k)) cs w) = .next (lone (b.atR a (.code c :: .inScope c :: k)) cs w) :=
  step_lone_go (by simp [stepG, stepG.exec, Frame.atR])
theorem stepR_inScope {P : Program} {b : Frame} {a : Act} {k : List Item} {cs : List Frame} {w : World} {c : Code} : step P (lone (b.atR a (.inScope c :: k)) cs w) = .next (lone (b.atR a k) cs w) :=
  step_lone_go (by simp [stepG, stepG.exec, Frame.atR])
theorem wpIn_scope {F : Fence} {n : Nat} {P : Program} {Q : Exit → Act → World → Prop} {a : Act} {w : World} {c : Code} (h : c.wpIn F n P (Exit.noGoto Q) a w) : (Code.scope c).wpIn F n P Q a w := by
  intro b k cs hro hb hr
  have h0 : (lone (b.atR a (.code (.scope c) :: k)) cs w).fenced P F := fenced_calm hb hr rfl
  obtain ⟨e, a₁, w₁, hq, harr⟩ := h b (.inScope c :: k) cs hro hb hr
  cases e with
  | normal => exact ⟨.normal, a₁, w₁, hq, .head h0 stepR_scope (StepsIn.trans harr (.one (fenced_calm hb hr rfl) stepR_inScope))⟩
  | exit id =>
    have hx : exitTo id (.inScope c :: k) = exitTo id k := by simp [exitTo]
    exact ⟨.exit id, a₁, w₁, hq, fun k' hk => .head h0 stepR_scope (harr.1 k' (by rw [hx]; exact hk)),
      fun hr' hk => let ⟨k₁, h1, h2⟩ := harr.2 hr' (by rw [hx]; exact hk); ⟨k₁, h1, .head h0 stepR_scope h2⟩⟩
  | goto l => exact hq.elim
  | ret => exact ⟨_, a₁, w₁, hq, .of_steps (.one h0 stepR_scope) harr⟩
  | panic ch => exact ⟨_, a₁, w₁, hq, .of_steps (.one h0 stepR_scope) harr⟩
  | outgrown => exact ⟨_, a₁, w₁, hq, .of_steps (.one h0 stepR_scope) harr⟩
section
variable {P : Program} {r : Option Nat} {N : Nat} {ops : Array Oper} {rest : List Oper} {Q : Exit → Act → World → Prop} {E : Env} {ds : List Deferred} {M : List HP} {F : List Fact}
variable {d : Nat} {ty : TypeId} {pos : String} {aft : Array Edge} {gd : Option (Nat × Bool)}
theorem TR.scope {c : Code} (h : TR P r N c (Exit.noGoto Q) E ds M F) : TR P r N (.scope c) Q E ds M F := fun a w ha hw => wpIn_scope (h a w ha hw)
theorem TR.label {l : Nat} (h : NX N .normal Q E ds M F) : TR P r N (.label l) Q E ds M F := fun a w ha hw => wpIn_label (h a w ha hw)
theorem NX.scopeR (h : NX N .ret Q E ds M F) : NX N .ret (Exit.noGoto Q) E ds M F := h
def tyArr (P : Program) (t e n : Nat) : Bool := match P.underlying t with | some (.array m e') => Nat.beq e' e && Nat.beq m n | _ => false
theorem tyArr_is {t e n : Nat} (h : tyArr P t e n = true) : P.underlying t = some (.array n e) := by
  unfold tyArr at h
  split at h
  · rename_i m e' he
    rw [Bool.and_eq_true] at h
    rw [he, Nat.eq_of_beq_eq_true h.1, Nat.eq_of_beq_eq_true h.2]
  · cases h
theorem BinV.lssS2 {t : TypeId} {a b : List UInt8} : BinV P .lss t (S a) (S b) (.bool (Op.bytesLess a b)) := ⟨fun w => by
  simp [binOp, Op.stringOp], fun _ _ _ => eqGuard_str _ _ _⟩
def encRu (n : Int) : List UInt8 := (Utf8.encode n).data.toList
theorem encL_is (n : Int) : (.string (Utf8.encode n) : Value) = S (encRu n) := by
  show _ = Value.string ⟨(Utf8.encode n).data.toList.toArray⟩
  rw [Array.toArray_toList]
theorem encL_high {n : Int} (h : 128 ≤ n) : 2 ≤ (encRu n).length ∧ (encRu n).length ≤ 4 ∧ ∃ b, (encRu n)[(encRu n).length - 1]? = some b ∧ 128 ≤ b.toNat := by
  have h1 : 2 ≤ (Utf8.encode n).size ∧ (Utf8.encode n).size ≤ 4 ∧ ∀ h : (Utf8.encode n).size - 1 < (Utf8.encode n).size, 128 ≤ ((Utf8.encode n)[(Utf8.encode n).size - 1]'h).toNat := by
    cases hv : Utf8.valid n with
    | true => exact encode_facts n hv h
    | false =>
      have e : Utf8.encode n = Utf8.encode 65533 := by
        unfold Utf8.encode
        rw [hv, show Utf8.valid 65533 = true from by decide]
        simp only [Bool.false_eq_true, if_false, if_true]
        rfl
      rw [e]
      exact encode_facts 65533 (by decide) (by decide)
  have hs : (encRu n).length = (Utf8.encode n).size := by unfold encRu; exact Array.length_toList
  refine ⟨by omega, by omega, (Utf8.encode n)[(Utf8.encode n).size - 1]'(by omega), ?_, h1.2.2 (by omega)⟩
  rw [hs]
  unfold encRu
  rw [Array.getElem?_toList, Array.getElem?_eq_getElem (by show _ < (Utf8.encode n).size; omega)]
  rfl
theorem ConvV.runeS {P : Program} {s t : TypeId} {k : IntKind} {n : Int} (hs : tyInt P s k = true) (ht : tyStr P t = true) : ConvV P s t (.int k n) (S (encRu n)) := fun w => by
  rw [← encL_is]
  exact run_convert_int_string w s t k n (by rw [tyInt_is hs]; rfl) (tyStr_underlying ht)
theorem RL.indexA {T e n i : Nat} {x y : Operand} {cs : List Value} {v : Value} (hg : wantedG ops E gd = some true) (ht : tyArr P T e n = true) (hz : tySize P e 1 = true) (hs : P.plainKey e = true) (hx : evalO E x = some (.agg cs.toArray)) (hy : evalO E y = some (I (i : Nat))) (hi : i < n) (hv : cs[i]? = some v) (hN : Nat.ble (d + 1) N = true) (k : RL P r N ops rest Q ((d, v) :: E) ds M F) : RL P r N ops (⟨some d, .index T x y, ty, pos, aft, gd⟩ :: rest) Q E ds M F :=
  RL.val rfl hg hN (fun ρ hρ w _ => by
    have h0 : (i : Int) < (n : Int) := by omega
    have hl := (List.getElem?_eq_some_iff.1 hv).1
    have hg := (List.getElem?_eq_some_iff.1 hv).2
    simp [execOp, hρ _ _ hx, hρ _ _ hy, Instr.index, asIntOf, run_underlying (tyArr_is ht), hi, run_sizeOf' hz]
    rw [run_part_plain w hs (show cs.toArray[i]? = some v by simpa using hv)]; rfl) k
theorem RL.sliceG {T e n size : Nat} {x : Operand} {a : Addr} (hg : wantedG ops E gd = some true) (ht : tyArr P T e n = true) (hz : tySize P e size = true) (hx : evalO E x = some (.pointer (some a))) (hN : Nat.ble (d + 1) N = true) (k : RL P r N ops rest Q ((d, .slice (some a) n n) :: E) ds M F) : RL P r N ops (⟨some d, .slice T x none none none, ty, pos, aft, gd⟩ :: rest) Q E ds M F :=
  RL.val rfl hg hN (fun ρ hρ w _ => by
    simp [execOp, hρ _ _ hx, Instr.sliceAt, Instr.sureAddr, Instr.slice, Instr.sliceBounds, run_underlying (tyArr_is ht), run_sizeOf' hz]
    intro _
    simp [Addr.add]) k
end
end Go.GL

namespace Go.GL
set_option linter.unusedVariables false
def inB (lo hi : Nat) (c : UInt8) : Bool := decide (lo ≤ c.toNat) && decide (c.toNat ≤ hi)
def spB (c : UInt8) : Bool := decide (c.toNat = 9) || (decide (c.toNat = 10) || (decide (c.toNat = 13) || decide (c.toNat = 32)))
def loB (c : UInt8) : Bool := inB 97 122 c
def upB (c : UInt8) : Bool := inB 65 90 c
def dgB (c : UInt8) : Bool := inB 48 57 c
def woB (c : UInt8) : Bool := loB c || (dgB c || decide (c.toNat = 95))
def naB (c : UInt8) : Bool := loB c || (upB c || dgB c)
def lnB (c : UInt8) : Bool := decide (c.toNat ≠ 10)
def rnN (cl : UInt8 → Bool) : List UInt8 → Nat
  | [] => 0
  | b :: l => if cl b = true then rnN cl l + 1 else 0
theorem rnN_le (cl : UInt8 → Bool) : ∀ l, rnN cl l ≤ l.length
  | [] => Nat.le_refl _
  | b :: l => by
    rw [rnN, List.length_cons]
    split
    · have := rnN_le cl l; omega
    · omega
theorem rnN_pos {cl : UInt8 → Bool} {b : UInt8} {l : List UInt8} (h : cl b = true) : 1 ≤ rnN cl (b :: l) := by rw [rnN, if_pos h]; omega
theorem rnN_step {cl : UInt8 → Bool} {l : List UInt8} {z : Nat} {b : UInt8} (hb : l[z]? = some b) : rnN cl (l.drop z) = if cl b = true then rnN cl (l.drop (z + 1)) + 1 else 0 := by
  have hz := (List.getElem?_eq_some_iff.1 hb).1
  rw [List.drop_eq_getElem_cons hz, (List.getElem?_eq_some_iff.1 hb).2, rnN]
def kwL : List (List UInt8) := [[97, 110, 100], [97, 115], [99, 104, 101, 99, 107], [100, 101, 108, 101, 116, 101], [101, 108, 115, 101], [102, 97, 108, 115, 101], [102, 117, 110], [105, 102], [105, 110], [105, 110, 115, 101, 114, 116], [107, 101, 121], [108, 101, 116], [109, 97, 116, 99, 104], [110, 111, 116], [111, 114], [112, 114, 111, 99], [114, 101, 102], [115, 101, 116], [116, 97, 98, 108, 101], [116, 104, 101, 110], [116, 111], [116, 114, 117, 101], [116, 121, 112, 101], [117, 112, 100, 97, 116, 101], [119, 104, 101, 114, 101], [119, 105, 116, 104]]
def syL : List (List UInt8) := [[61, 61], [33, 61], [60, 61], [60, 45], [45, 62], [43, 43], [60], [62], [61], [43], [45], [42], [40], [41], [123], [125], [91], [93], [44], [46], [58], [124], [59], [63]]
def stC (l : List (List UInt8)) : List Value := l.map S
theorem stC_get {l : List (List UInt8)} {i : Nat} {x : List UInt8} (h : l[i]? = some x) : (stC l)[i]? = some (S x) := by unfold stC; rw [List.getElem?_map, h]; rfl
def bsN (l : List (List UInt8)) (lt : List UInt8 → List UInt8 → Bool) (s : List UInt8) : Nat → Nat → Nat → Nat
  | 0, i, _ => i
  | f + 1, i, j => if i < j then (if lt (l.getD ((i + j) / 2) []) s = true then bsN l lt s f ((i + j) / 2 + 1) j else bsN l lt s f i ((i + j) / 2)) else i
def kwB (lt : List UInt8 → List UInt8 → Bool) (s : List UInt8) : Bool := decide (kwL[bsN kwL lt s 26 0 26]? = some s)
def pfB (s x : List UInt8) : Bool := decide (x.length ≤ s.length) && decide (s.take x.length = x)
def syN (s : List UInt8) : List (List UInt8) → Nat
  | [] => 0
  | x :: l => if pfB s x = true then x.length else syN s l
theorem syN_le (s : List UInt8) : ∀ l, syN s l ≤ s.length
  | [] => Nat.zero_le _
  | x :: l => by
    rw [syN]
    split
    · rename_i h
      unfold pfB at h
      rw [Bool.and_eq_true, decide_eq_true_eq] at h
      exact h.1
    · exact syN_le s l
def qtB (c : UInt8) : Bool := decide (c.toNat = 34) || decide (c.toNat = 10)
def qtI : List UInt8 → Option Nat
  | [] => none
  | b :: l => if qtB b = true then some 0 else (qtI l).map (· + 1)
theorem qtI_lt : ∀ {l : List UInt8} {i : Nat}, qtI l = some i → ∃ b, l[i]? = some b ∧ qtB b = true
  | b :: l, i, h => by
    rw [qtI] at h
    split at h
    · rename_i hb; cases h; exact ⟨b, rfl, hb⟩
    · obtain ⟨j, hj, rfl⟩ := Option.map_eq_some_iff.1 h
      obtain ⟨c, h1, h2⟩ := qtI_lt hj
      exact ⟨c, by simpa using h1, h2⟩
theorem qtI_hit : ∀ {l : List UInt8} {i : Nat} {b : UInt8}, (∀ (j : Nat) c, j < i → l[j]? = some c → qtB c = false) → l[i]? = some b → qtB b = true → qtI l = some i
  | a :: l, 0, b, _, h, hb => by simp at h; subst h; rw [qtI, if_pos hb]
  | a :: l, i + 1, b, hn, h, hb => by
    have h0 : qtB a = false := hn 0 a (by omega) rfl
    rw [qtI, if_neg (by rw [h0]; decide), qtI_hit (i := i) (fun j c hj hc => hn (j + 1) c (by omega) (by simpa using hc)) (by simpa using h) hb]; rfl
theorem qtI_none : ∀ {l : List UInt8}, (∀ (j : Nat) c, l[j]? = some c → qtB c = false) → qtI l = none
  | [], _ => rfl
  | a :: l, hn => by
    have h0 : qtB a = false := hn 0 a rfl
    rw [qtI, if_neg (by rw [h0]; decide), qtI_none fun j c hc => hn (j + 1) c (by simpa using hc)]; rfl
def qtZ : Option Nat → Int
  | some i => (i : Nat)
  | none => -1
theorem charL_high {m : List UInt8} {j : Nat} (h1 : 1 ≤ j) (h2 : j < (charL m).1) : 128 ≤ cb m j := by
  have hs : 128 ≤ (secB (cb m 0)).1 := by unfold secB; repeat' split
                                          all_goals decide
  unfold charL at h2
  split at h2
  · rename_i h
    have : j = 1 := by have : j < 2 := h2; omega
    subst this; exact h.2.2.2.1
  · split at h2
    · rename_i h
      have h3 : j < 3 := h2
      have h4 := h.2.2.1.2.1
      rcases (show j = 1 ∨ j = 2 by omega) with e | e
      · subst e; omega
      · subst e; exact h.2.2.2.2.1
    · split at h2
      · rename_i h
        have h3 : j < 4 := h2
        have h4 := h.2.2.1.2.1
        rcases (show j = 1 ∨ j = 2 ∨ j = 3 by omega) with e | e | e
        · subst e; omega
        · subst e; exact h.2.2.2.1.2.1
        · subst e; exact h.2.2.2.2.2.1
      · have h3 : j < 1 := h2
        omega
theorem dec_low {l : List UInt8} {z : Nat} {b : UInt8} (hb : l[z]? = some b) (h : b.toNat < 128) : (Utf8.decode ⟨l.toArray⟩ z).1 = b.toNat := by
  have hz := (List.getElem?_eq_some_iff.1 hb).1
  have hg : (⟨l.toArray⟩ : ByteArray)[z]'(by simpa [ByteArray.size] using hz) = b := by
    have := (List.getElem?_eq_some_iff.1 hb).2
    rw [← this]; rfl
  have := decode_ascii ⟨l.toArray⟩ z (by simpa [ByteArray.size] using hz) (by rw [hg]; exact h)
  rw [this, hg]
theorem dec_high {l : List UInt8} {z : Nat} {b : UInt8} (hb : l[z]? = some b) (h : 128 ≤ b.toNat) : 128 ≤ (Utf8.decode ⟨l.toArray⟩ z).1 := by
  have hz := (List.getElem?_eq_some_iff.1 hb).1
  have hg : (⟨l.toArray⟩ : ByteArray)[z]'(by simpa [ByteArray.size] using hz) = b := by
    have := (List.getElem?_eq_some_iff.1 hb).2
    rw [← this]; rfl
  exact (decode_high ⟨l.toArray⟩ z (by simpa [ByteArray.size] using hz) (by rw [hg]; exact h)).1
theorem qtB_is (b : UInt8) : qtB b = true ↔ b.toNat = 34 ∨ b.toNat = 10 := by unfold qtB; simp
theorem dec_qt {l : List UInt8} {z : Nat} {b : UInt8} (hb : l[z]? = some b) : ((Utf8.decode ⟨l.toArray⟩ z).1 = 34 ∨ (Utf8.decode ⟨l.toArray⟩ z).1 = 10) ↔ qtB b = true := by
  rw [qtB_is]
  by_cases h : b.toNat < 128
  · rw [dec_low hb h]
  · have := dec_high hb (by omega)
    omega
theorem dec_skip {l : List UInt8} {z : Nat} (hn : ∀ (j : Nat) c, j < z → l[j]? = some c → qtB c = false) {b : UInt8} (hb : l[z]? = some b) (hq : qtB b = false) : ∀ (j : Nat) c, j < z + (charL (l.drop z)).1 → l[j]? = some c → qtB c = false := by
  intro j c hj hc
  rcases Nat.lt_trichotomy j z with h | h | h
  · exact hn j c h hc
  · subst h; rw [hb] at hc; cases hc; exact hq
  · have h1 := charL_high (m := l.drop z) (j := j - z) (by omega) (by omega)
    have h2 : cb (l.drop z) (j - z) = c.toNat := by
      unfold cb
      rw [List.getD_eq_getElem?_getD, List.getElem?_drop, show z + (j - z) = j from by omega, hc]; rfl
    rw [h2] at h1
    cases hq2 : qtB c with
    | false => rfl
    | true => rw [qtB_is] at hq2; omega
def quN (s : List UInt8) : Nat := match qtI (s.drop 1) with
  | none => 0
  | some i => if s.getD (1 + i) 0 = 10 then 0 else i + 2
theorem quN_le (s : List UInt8) : quN s ≤ s.length := by
  unfold quN
  split
  · omega
  · rename_i i hi
    split
    · omega
    · obtain ⟨b, hb, _⟩ := qtI_lt hi
      have := (List.getElem?_eq_some_iff.1 hb).1
      rw [List.length_drop] at this; omega
def qrL0 : List UInt8 := [34, 10]
theorem indexAny_qt : ∀ l : List UInt8, Lib.indexAny l qrL0 = qtZ (qtI l)
  | [] => rfl
  | b :: l => by
    have ih := indexAny_qt l
    have hc : qrL0.contains b = qtB b := by
      rw [Bool.eq_iff_iff, qtB_is]
      show ((b == 34) || ((b == 10) || false)) = true ↔ _
      rw [Bool.or_false, Bool.or_eq_true, beq_iff_eq, beq_iff_eq]
      constructor
      · rintro (h | h) <;> subst h
        · exact .inl rfl
        · exact .inr rfl
      · rintro (h | h)
        · exact .inl (UInt8.toNat_inj.1 h)
        · exact .inr (UInt8.toNat_inj.1 h)
    rw [Lib.indexAny, qtI, hc, ih]
    cases hq : qtB b with
    | true => rfl
    | false =>
      cases hi : qtI l with
      | none => rfl
      | some i =>
        show (if ((i : Nat) : Int) == -1 then (-1 : Int) else ((i : Nat) : Int) + 1) = ((i + 1 : Nat) : Int)
        have : (((i : Nat) : Int) == -1) = false := by rw [beq_eq_false_iff_ne]; omega
        rw [this]; simp
section
variable (lt : List UInt8 → List UInt8 → Bool)
def gdN (s : List UInt8) : Nat × Nat := match s with
  | [] => (6, syN [] syL)
  | c :: _ => if spB c = true then (0, rnN spB s)
    else if c.toNat = 35 then (1, rnN lnB s)
    else if loB c = true then (if kwB lt (s.take (rnN woB s)) = true then 7 else 2, rnN woB s)
    else if upB c = true then (3, rnN naB s)
    else if dgB c = true then (4, rnN dgB s)
    else if c.toNat = 34 then (5, quN s)
    else (6, syN s syL)
theorem gdN_le (s : List UInt8) : (gdN lt s).2 ≤ s.length ∧ (gdN lt s).1 ≤ 8 := by
  unfold gdN
  split
  · exact ⟨syN_le _ _, by decide⟩
  · repeat' split
    all_goals refine ⟨?_, Nat.le_of_ble_eq_true rfl⟩
    all_goals first | exact rnN_le _ _ | exact quN_le _ | exact syN_le _ _
def bdN (s : List UInt8) : Nat → Nat → Nat
  | 0, n => n
  | f + 1, n => if n < s.length ∧ s.getD n 0 ≠ 34 then (if 0 < (gdN lt (s.drop n)).2 then n else bdN s f (n + 1)) else n
theorem bdN_le (s : List UInt8) : ∀ f n, n ≤ s.length → n ≤ bdN lt s f n ∧ bdN lt s f n ≤ s.length
  | 0, n, h => ⟨Nat.le_refl _, h⟩
  | f + 1, n, h => by
    rw [bdN]
    split
    · rename_i h1
      split
      · exact ⟨Nat.le_refl _, h⟩
      · have := bdN_le s f (n + 1) h1.1; omega
    · exact ⟨Nat.le_refl _, h⟩
def nxN (s : List UInt8) : Nat × Nat := if 0 < (gdN lt s).2 then gdN lt s else if s.getD 0 0 = 34 then (8, rnN lnB s) else (8, bdN lt s s.length 1)
theorem nxN_ok {s : List UInt8} (h : 0 < s.length) : 1 ≤ (nxN lt s).2 ∧ (nxN lt s).2 ≤ s.length ∧ (nxN lt s).1 ≤ 8 := by
  unfold nxN
  split
  · rename_i h1
    have := gdN_le lt s
    exact ⟨h1, this⟩
  · split
    · rename_i h2
      refine ⟨?_, rnN_le _ _, Nat.le_refl _⟩
      cases s with
      | nil => simp at h
      | cons b l =>
        have hb : b = 34 := by simpa using h2
        exact rnN_pos (by rw [hb]; decide)
    · have := bdN_le lt s s.length 1 h
      exact ⟨this.1, this.2, Nat.le_refl _⟩
structure Tk where
  k : Nat
  x : List UInt8
  at_ : Nat
def tkV (t : Tk) : List Value := [I (t.k : Nat), S t.x, I (t.at_ : Nat)]
def tkC : List Tk → List Value
  | [] => []
  | t :: l => I (t.k : Nat) :: S t.x :: I (t.at_ : Nat) :: tkC l
def tkF (s : List UInt8) : Nat → Nat → List Tk
  | 0, _ => []
  | f + 1, p => if p < s.length then ⟨(nxN lt (s.drop p)).1, (s.drop p).take (nxN lt (s.drop p)).2, p⟩ :: tkF s f (p + (nxN lt (s.drop p)).2) else []
def tks (s : List UInt8) : List Tk := tkF lt s s.length 0
theorem tkF_len (s : List UInt8) : ∀ f p, (tkF lt s f p).length ≤ f
  | 0, p => Nat.le_refl _
  | f + 1, p => by
    rw [tkF]
    split
    · rw [List.length_cons]; have := tkF_len s f (p + (nxN lt (s.drop p)).2); omega
    · exact Nat.zero_le _
end
end Go.GL
