/- Lemmas and walks for the proof of ReplJ: texts one behind the other. No condition. -/
import Derived.Test.YtdlpaojkkekdlaaPred
namespace Go.Proofs.Ytdlpaojkkekdlaa
open Go.GL
set_option linter.unusedVariables false
theorem ya_tl22 : tySlice Try.prog 22 3 = true := by kernel_rfl
theorem ya_ts3 : tyScalar Try.prog 3 = true := by kernel_rfl
theorem ya_tz3 : tySize Try.prog 3 1 = true := by kernel_rfl
theorem isnan_spec {a : Int} {M : List HP} {F : List Fact} : Ctr Try.prog 124 [I a] M F Unit (fun _ => .bool false) (fun _ => M) (fun _ => F) := by
  refine Ctr.body Try.func124 rfl rfl ?_
  refine TR.seq ?_
  refine TR.region ?_
  refine RL.assign rfl rfl rfl ?_
  refine RL.nil ?_
  refine NX.seq ?_
  refine TR.seq ?_
  refine TR.region ?_
  refine RL.move rfl rfl rfl ?_
  refine RL.move rfl rfl rfl ?_
  refine RL.bin rfl rfl rfl BinV.neq rfl ?_
  refine RL.assign rfl rfl rfl ?_
  refine RL.nil ?_
  refine NX.seq ?_
  refine TR.ret ?_
  exact NX.ret1 () rfl rfl (congrArg Value.bool (decide_eq_false (by simp))) (fun w hw => hw)

theorem less_spec {a b : Int} {M : List HP} {F : List Fact} : Ctr Try.prog 114 [I a, I b] M F Unit (fun _ => .bool (decide (a < b))) (fun _ => M) (fun _ => F) := by
  refine Ctr.body Try.func114 rfl rfl ?_
  refine TR.seq ?_
  refine TR.region ?_
  refine RL.assign rfl rfl rfl ?_
  refine RL.nil ?_
  refine NX.seq ?_
  refine TR.seq ?_
  refine TR.region ?_
  refine RL.move rfl rfl rfl ?_
  refine RL.call rfl rfl Try.call124 rfl (isnan_spec) (fun _ => ?_)
  refine RL.move rfl rfl rfl ?_
  refine RL.skip rfl rfl rfl ?_
  refine RL.skip rfl rfl rfl ?_
  refine RL.skip rfl rfl rfl ?_
  refine RL.pickF rfl rfl rfl rfl ?_
  refine RL.move rfl rfl rfl ?_
  refine RL.move rfl rfl rfl ?_
  refine RL.move rfl rfl rfl ?_
  refine RL.bin rfl rfl rfl BinV.lss rfl ?_
  refine RL.pickF rfl rfl rfl rfl ?_
  refine RL.assign rfl rfl rfl ?_
  refine RL.nil ?_
  refine NX.seq ?_
  refine TR.ret ?_
  exact NX.ret1 () rfl rfl rfl (fun w hw => hw)

structure SoX where
  l : List Int
  j : Nat

theorem isort_spec {l0 : List Int} {oa : Option Addr} {c : Nat} {M : List HP} {F : List Fact} (hl : l0.length ≤ 4611686018427387904) : Ctr Try.prog 108 [.slice oa l0.length c, I 0, I (l0.length : Nat)] (OwnSl 3 1 oa l0.length c (ints l0) :: M) F {l : List Int // l.Perm l0 ∧ Ord l l0.length} (fun _ => .tuple #[]) (fun z => OwnSl 3 1 oa l0.length c (ints z.1) :: M) (fun _ => F) := by
  refine Ctr.body Try.func108 rfl rfl ?_
  refine TR.seq ?_
  refine TR.region ?_
  refine RL.move rfl rfl rfl ?_
  refine RL.bin rfl rfl rfl (BinV.add _ rfl (by omega) (by omega)) rfl ?_
  refine RL.assign rfl rfl rfl ?_
  refine RL.nil ?_
  refine NX.seq ?_
  refine TR.block ?_
  refine TR.loopP (ι := SoX) (fun x => x.l.length = l0.length ∧ x.l.Perm l0 ∧ 1 ≤ x.j ∧ Ord x.l x.j) (fun x => [(0, .slice oa l0.length c), (1, I 0), (2, I (l0.length : Nat)), (6, I x.j)]) (fun x => OwnSl 3 1 oa l0.length c (ints x.l) :: M) (fun _ => F) (fun x => l0.length + 1 - x.j) ⟨l0, 1⟩ ⟨rfl, List.Perm.refl _, Nat.le_refl _, fun p q h1 h2 => absurd (show q < 1 from h2) (by omega)⟩ ⟨rfl, rfl, rfl, rfl, trivial⟩ (fun w hw => hw) (fun x hx => ?_)
  refine TR.seq ?_
  refine TR.seq ?_
  refine TR.region ?_
  refine RL.move rfl rfl rfl ?_
  refine RL.move rfl rfl rfl ?_
  refine RL.bin rfl rfl rfl BinV.lss rfl ?_
  refine RL.nil ?_
  refine NX.seq ?_
  refine TR.cond rfl (fun h1 => ?_) (fun h1 => ?_)
  · skip
    have hi : x.j < l0.length := by have := of_decide_eq_true h1; omega
    refine TR.openP (fun w hw => own_at (i := 0) (M := _ :: M) rfl (ints_ne (by omega)) hw) (fun g hga => ?_)
    refine TR.skip ?_
    refine NX.seq ?_
    refine TR.seq ?_
    refine TR.block ?_
    refine TR.seq ?_
    refine TR.region ?_
    refine RL.move rfl rfl rfl ?_
    refine RL.assign rfl rfl rfl ?_
    refine RL.nil ?_
    refine NX.seq ?_
    refine TR.block ?_
    refine TR.loopP (ι := SoX) (fun y => y.l.length = l0.length ∧ y.l.Perm l0 ∧ y.j ≤ x.j ∧ OrdBut y.l x.j y.j) (fun y => [(0, .slice oa l0.length c), (1, I 0), (2, I (l0.length : Nat)), (6, I x.j), (7, I y.j)]) (fun y => OwnSl 3 1 oa l0.length c (ints y.l) :: M) (fun _ => F) (fun y => y.j) ⟨x.l, x.j⟩ ⟨hx.1, hx.2.1, Nat.le_refl _, OrdBut.start hx.2.2.2⟩ ⟨rfl, rfl, rfl, rfl, rfl, trivial⟩ (fun w hw => hw) (fun y hy => ?_)
    refine TR.seq ?_
    refine TR.seq ?_
    refine TR.sub (E' := [(0, _), (1, _), (2, _), (6, _), (7, _)]) ⟨rfl, rfl, rfl, rfl, rfl, trivial⟩ ?_
    refine TR.draw mixed ?_
    cases h2 : decide ((0 : Int) < (y.j : Int))
    · skip
      have hs : y.j = 0 ∨ ¬ iAt y.l y.j < iAt y.l (y.j - 1) := Or.inl (by have := of_decide_eq_false h2; omega)
      apply AR.more [(0, _), (1, _), (2, _), (3, .bool false), (4, undef), (5, undef), (6, undef), (7, undef), (8, undef), (9, undef), (10, undef), (11, undef), (12, undef), (13, undef), (14, .bool false)]
      refine AR.last [0, 1, 2, 3, 4, 5, 6, 7, 8, 9, 10, 11, 12, 13, 14] [0, 1, 2, 3, 4, 5, 6, 7, 8, 9, 10, 11, 12, 13, 14] ⟨QOne.yes rfl rfl rfl (PV.move rfl), QOne.yes rfl rfl rfl (PV.move rfl), QOne.yes rfl rfl rfl (PV.bin rfl rfl BinV.gtr), QOne.yes rfl rfl rfl (PV.cast (congrArg Value.bool h2) (PV.move rfl)), QOne.no rfl rfl rfl, QOne.no rfl rfl rfl, QOne.no rfl rfl rfl, QOne.no rfl rfl rfl, QOne.no rfl rfl rfl, QOne.no rfl rfl rfl, QOne.no rfl rfl rfl, QOne.no rfl rfl rfl, QOne.no rfl rfl rfl, QOne.no rfl rfl rfl, QOne.yes rfl rfl rfl (PV.pickF rfl rfl), trivial⟩ rfl rfl rfl ?_
      refine NX.sub (E' := [(0, _), (1, _), (2, _), (6, _), (7, _), (16, _), (17, _), (18, _), (19, _), (20, _), (21, _), (22, _), (23, _), (24, _), (25, _), (26, _), (27, _), (28, _), (29, _), (30, _)]) ⟨rfl, rfl, rfl, rfl, rfl, rfl, rfl, rfl, rfl, rfl, rfl, rfl, rfl, rfl, rfl, rfl, rfl, rfl, rfl, rfl, trivial⟩ ?_
      refine NX.seq ?_
      refine TR.condF rfl ?_
      refine TR.exit ?_
      refine NX.exitThen ?_
      refine NX.exitThen ?_
      refine NX.exitHere ?_
      refine NX.off ?_
      refine NX.seq ?_
      refine TR.region ?_
      refine RL.move rfl rfl rfl ?_
      refine RL.bin rfl rfl rfl (BinV.add _ rfl (by omega) (by omega)) rfl ?_
      refine RL.assign rfl rfl rfl ?_
      refine RL.nil ?_
      refine NX.roundP ⟨y.l, x.j + 1⟩ ⟨hy.1, hy.2.1, by show 1 ≤ x.j + 1; omega, hy.2.2.2.stop hy.2.2.1 hs⟩ (by show l0.length + 1 - (x.j + 1) < l0.length + 1 - x.j; omega) ⟨rfl, rfl, rfl, rfl, trivial⟩ (fun w hw => hw)
    · skip
      have hj0 : 0 < y.j := by have := of_decide_eq_true h2; omega
      apply AR.more [(0, _), (1, _), (2, _), (3, .bool true), (4, _), (5, _), (6, _), (7, _), (8, _), (9, _), (10, _), (11, _), (12, _)]
      refine AR.eff [0, 1, 2, 3, 4, 5, 6, 7, 8, 9, 10, 11, 12] 13 [0, 1, 2, 3, 4, 5, 6, 7, 8, 9, 10, 11, 12, 13, 14] ⟨QOne.yes rfl rfl rfl (PV.move rfl), QOne.yes rfl rfl rfl (PV.move rfl), QOne.yes rfl rfl rfl (PV.bin rfl rfl BinV.gtr), QOne.yes rfl rfl rfl (PV.cast (congrArg Value.bool h2) (PV.move rfl)), QOne.yes rfl rfl rfl (PV.move rfl), QOne.yes rfl rfl rfl (PV.move rfl), QOne.yes rfl rfl rfl (PV.indexAddr ya_tl22 ya_tz3 (congrArg (fun a => some (Value.slice a _ _)) hga) rfl (by omega) (by omega)), QOne.yes rfl rfl rfl (PV.loadS rfl (own_one (i := 0) rfl hga ya_ts3 (ints_iAt (y.j) (by omega) (by omega)))), QOne.yes rfl rfl rfl (PV.move rfl), QOne.yes rfl rfl rfl (PV.move rfl), QOne.yes rfl rfl rfl (PV.bin rfl rfl (BinV.sub _ rfl (by omega) (by omega))), QOne.yes rfl rfl rfl (PV.indexAddr ya_tl22 ya_tz3 (congrArg (fun a => some (Value.slice a _ _)) hga) rfl (by omega) (by omega)), QOne.yes rfl rfl rfl (PV.loadS rfl (own_one (i := 0) rfl hga ya_ts3 (ints_iAt (y.j - 1) (by omega) (by omega)))), trivial⟩ rfl rfl rfl rfl rfl rfl rfl (EV.call rfl Try.call114 (less_spec)) (fun _ => ?_)
      refine AR.done [7, 12, 3, 2, 11, 6, 4, 5, 8, 10, 0, 1, 9] rfl ?_
      apply AR.more [(14, _)]
      refine AR.last [14] [0, 1, 2, 3, 4, 5, 6, 7, 8, 9, 10, 11, 12, 13, 14] ⟨QOne.yes rfl rfl rfl (PV.pickT rfl rfl), trivial⟩ rfl rfl rfl ?_
      refine NX.sub (E' := [(0, _), (1, _), (2, _), (6, _), (7, _), (16, _), (17, _), (18, _), (19, _), (20, _), (21, _), (22, _), (23, _), (24, _), (25, _), (26, _), (27, _), (28, _), (29, _), (30, _)]) ⟨rfl, rfl, rfl, rfl, rfl, rfl, rfl, rfl, rfl, rfl, rfl, rfl, rfl, rfl, rfl, rfl, rfl, rfl, rfl, rfl, trivial⟩ ?_
      refine NX.seq ?_
      refine TR.cond rfl (fun h3 => ?_) (fun h3 => ?_)
      · skip
        have hlt : iAt y.l y.j < iAt y.l (y.j - 1) := of_decide_eq_true h3
        refine TR.skip ?_
        refine NX.seq ?_
        refine TR.seq ?_
        refine TR.block ?_
        refine TR.sub (E' := [(0, _), (1, _), (2, _), (6, _), (7, _), (16, _), (17, _), (18, _), (19, _), (20, _), (21, _), (22, _), (23, _), (24, _), (25, _), (26, _), (27, _), (28, _), (29, _), (30, _)]) ⟨rfl, rfl, rfl, rfl, rfl, rfl, rfl, rfl, rfl, rfl, rfl, rfl, rfl, rfl, rfl, rfl, rfl, rfl, rfl, rfl, trivial⟩ ?_
        refine TR.draw mixed ?_
        apply AR.more [(0, _), (1, _), (2, _), (3, _), (4, _), (5, _), (6, _), (7, _), (8, _), (9, _), (10, _), (11, _), (12, _), (13, _), (14, _)]
        refine AR.eff [0, 1, 2, 3, 4, 5, 6, 7, 8, 9, 10, 11, 12, 13, 14] 15 [0, 1, 2, 3, 4, 5, 6, 7, 8, 9, 10, 11, 12, 13, 14, 15, 16, 17] ⟨QOne.yes rfl rfl rfl (PV.move rfl), QOne.yes rfl rfl rfl (PV.move rfl), QOne.yes rfl rfl rfl (PV.move rfl), QOne.yes rfl rfl rfl (PV.move rfl), QOne.yes rfl rfl rfl (PV.bin rfl rfl (BinV.sub _ rfl (by omega) (by omega))), QOne.yes rfl rfl rfl (PV.move rfl), QOne.yes rfl rfl rfl (PV.move rfl), QOne.yes rfl rfl rfl (PV.bin rfl rfl (BinV.sub _ rfl (by omega) (by omega))), QOne.yes rfl rfl rfl (PV.indexAddr ya_tl22 ya_tz3 (congrArg (fun a => some (Value.slice a _ _)) hga) rfl (by omega) (by omega)), QOne.yes rfl rfl rfl (PV.loadS rfl (own_one (i := 0) rfl hga ya_ts3 (ints_iAt (y.j - 1) (by omega) (by omega)))), QOne.yes rfl rfl rfl (PV.move rfl), QOne.yes rfl rfl rfl (PV.move rfl), QOne.yes rfl rfl rfl (PV.indexAddr ya_tl22 ya_tz3 (congrArg (fun a => some (Value.slice a _ _)) hga) rfl (by omega) (by omega)), QOne.yes rfl rfl rfl (PV.loadS rfl (own_one (i := 0) rfl hga ya_ts3 (ints_iAt (y.j) (by omega) (by omega)))), QOne.yes rfl rfl rfl (PV.indexAddr ya_tl22 ya_tz3 (congrArg (fun a => some (Value.slice a _ _)) hga) rfl (by omega) (by omega)), trivial⟩ rfl rfl rfl rfl rfl rfl rfl (EV.storeO (vs := [I (iAt y.l (y.j - 1))]) 0 rfl rfl rfl hga ya_tz3 rfl (by simp; omega) rfl) (fun _ => ?_)
        refine AR.done [14, 9, 0, 1, 5, 6, 7, 8, 13, 12, 10, 11] rfl ?_
        apply AR.more [(16, _)]
        refine AR.eff [2, 3, 4, 16] 17 [0, 1, 2, 3, 4, 5, 6, 7, 8, 9, 10, 11, 12, 13, 14, 15, 16, 17] ⟨QOne.yes rfl rfl rfl (PV.move rfl), QOne.yes rfl rfl rfl (PV.move rfl), QOne.yes rfl rfl rfl (PV.bin rfl rfl (BinV.sub _ rfl (by omega) (by omega))), QOne.yes rfl rfl rfl (PV.indexAddr ya_tl22 ya_tz3 (congrArg (fun a => some (Value.slice a _ _)) hga) rfl (by omega) (by omega)), trivial⟩ rfl rfl rfl rfl rfl rfl rfl (EV.storeO (vs := [I (iAt y.l y.j)]) 0 rfl rfl rfl hga ya_tz3 rfl (by simp; omega) rfl) (fun _ => ?_)
        refine AR.done [16, 2, 3, 4] rfl ?_
        refine AR.last [] [0, 1, 2, 3, 4, 5, 6, 7, 8, 9, 10, 11, 12, 13, 14, 15, 16, 17] trivial rfl rfl rfl ?_
        refine NX.sub (E' := [(0, _), (1, _), (2, _), (6, _), (7, _), (16, _), (17, _), (18, _), (19, _), (20, _), (21, _), (22, _), (23, _), (24, _), (25, _), (26, _), (27, _), (28, _), (29, _), (30, _), (33, _), (34, _), (35, _), (36, _), (37, _), (38, _), (39, _), (40, _), (41, _), (42, _), (43, _), (44, _), (45, _), (46, _), (47, _), (48, _)]) ⟨rfl, rfl, rfl, rfl, rfl, rfl, rfl, rfl, rfl, rfl, rfl, rfl, rfl, rfl, rfl, rfl, rfl, rfl, rfl, rfl, rfl, rfl, rfl, rfl, rfl, rfl, rfl, rfl, rfl, rfl, rfl, rfl, rfl, rfl, rfl, rfl, trivial⟩ ?_
        refine NX.off ?_
        refine NX.seq ?_
        refine TR.region ?_
        refine RL.move rfl rfl rfl ?_
        refine RL.bin rfl rfl rfl (BinV.sub _ rfl (by omega) (by omega)) rfl ?_
        refine RL.assign rfl rfl rfl ?_
        refine RL.nil ?_
        refine NX.roundP ⟨swp y.l y.j, y.j - 1⟩ ⟨(swp_len _ _).trans hy.1, (swp_perm (by omega) hj0).trans hy.2.1, by show y.j - 1 ≤ _; omega, hy.2.2.2.step (by omega) hy.2.2.1 hj0 hlt⟩ (by show y.j - 1 < y.j; omega) ⟨rfl, rfl, rfl, rfl, ?_, trivial⟩ (fun w hw => ?_)
        · show some (I ((y.j : Int) - 1)) = some (I ((y.j - 1 : Nat) : Int)); congr 2; omega
        · have h9 := hw
          have e1 := ints_set (l := y.l) (v := (y.j : Int)) (x := iAt y.l (y.j - 1)) y.j (by omega) (by omega)
          have e2 := ints_set (l := y.l.set y.j (iAt y.l (y.j - 1))) (v := (y.j : Int) - 1) (x := iAt y.l y.j) (y.j - 1) (by omega) (by rw [List.length_set]; omega)
          show St w (OwnSl 3 1 oa l0.length c (ints (swp y.l y.j)) :: M) F
          unfold swp
          rw [← e2, ← e1]
          exact hw
      · skip
        have hs : y.j = 0 ∨ ¬ iAt y.l y.j < iAt y.l (y.j - 1) := Or.inr (of_decide_eq_false h3)
        refine TR.exit ?_
        refine NX.exitThen ?_
        refine NX.exitThen ?_
        refine NX.exitHere ?_
        refine NX.off ?_
        refine NX.seq ?_
        refine TR.region ?_
        refine RL.move rfl rfl rfl ?_
        refine RL.bin rfl rfl rfl (BinV.add _ rfl (by omega) (by omega)) rfl ?_
        refine RL.assign rfl rfl rfl ?_
        refine RL.nil ?_
        refine NX.roundP ⟨y.l, x.j + 1⟩ ⟨hy.1, hy.2.1, by show 1 ≤ x.j + 1; omega, hy.2.2.2.stop hy.2.2.1 hs⟩ (by show l0.length + 1 - (x.j + 1) < l0.length + 1 - x.j; omega) ⟨rfl, rfl, rfl, rfl, trivial⟩ (fun w hw => hw)
  · skip
    have hi : ¬ x.j < l0.length := by have := of_decide_eq_false h1; omega
    refine TR.exit ?_
    refine NX.exitThen ?_
    refine NX.exitThen ?_
    refine NX.exitHere ?_
    refine NX.end0 (⟨x.l, hx.2.1, ?_⟩ : {l : List Int // l.Perm l0 ∧ Ord l l0.length}) rfl rfl (fun w hw => hw)
    exact fun p q h1 h2 => hx.2.2.2 p q h1 (by omega)

end Go.Proofs.Ytdlpaojkkekdlaa

namespace Go.Proofs.Ytdlpaojkkekdlaa
open Go.GL
set_option linter.unusedVariables false
theorem pdq_spec {l0 : List Int} {oa : Option Addr} {c : Nat} {n : Int} {M : List HP} {F : List Fact} (h12 : l0.length ≤ 12) (hl : l0.length ≤ 4611686018427387904) : Ctr Try.prog 106 [.slice oa l0.length c, I 0, I (l0.length : Nat), I n] (OwnSl 3 1 oa l0.length c (ints l0) :: M) F {l : List Int // l.Perm l0 ∧ Ord l l0.length} (fun _ => .tuple #[]) (fun z => OwnSl 3 1 oa l0.length c (ints z.1) :: M) (fun _ => F) := by
  refine Ctr.body Try.func106 rfl rfl ?_
  refine TR.seq ?_
  refine TR.region ?_
  refine RL.assign rfl rfl rfl ?_
  refine RL.nil ?_
  refine NX.seq ?_
  refine TR.seq ?_
  refine TR.region ?_
  refine RL.assign rfl rfl rfl ?_
  refine RL.nil ?_
  refine NX.seq ?_
  refine TR.block ?_
  refine TR.loopP (ι := Nat) (fun k => k ≤ 0) (fun _ => [(0, .slice oa l0.length c), (1, I 0), (2, I (l0.length : Nat))]) (fun _ => OwnSl 3 1 oa l0.length c (ints l0) :: M) (fun _ => F) (fun k => k) 0 (Nat.le_refl _) ⟨rfl, rfl, rfl, trivial⟩ (fun w hw => hw) (fun k hk => ?_)
  refine TR.block ?_
  refine TR.seq ?_
  refine TR.region ?_
  refine RL.move rfl rfl rfl ?_
  refine RL.move rfl rfl rfl ?_
  refine RL.bin rfl rfl rfl (BinV.sub _ rfl (by omega) (by omega)) rfl ?_
  refine RL.assign rfl rfl rfl ?_
  refine RL.nil ?_
  refine NX.seq ?_
  refine TR.seq ?_
  refine TR.seq ?_
  refine TR.region ?_
  refine RL.move rfl rfl rfl ?_
  refine RL.bin rfl rfl rfl (BinV.to (d := true) BinV.leq (decide_eq_true (by omega))) rfl ?_
  refine RL.nil ?_
  refine NX.seq ?_
  refine TR.condT rfl ?_
  refine TR.seq ?_
  refine TR.region ?_
  refine RL.move rfl rfl rfl ?_
  refine RL.move rfl rfl rfl ?_
  refine RL.move rfl rfl rfl ?_
  refine RL.call rfl rfl Try.call108 rfl (isort_spec hl) (fun z => ?_)
  refine RL.nil ?_
  refine NX.seq ?_
  refine TR.ret ?_
  refine NX.retThen ?_
  refine NX.retBlock ?_
  refine NX.retThen ?_
  refine NX.retBlock ?_
  exact NX.ret0 z rfl rfl (fun w hw => hw)

end Go.Proofs.Ytdlpaojkkekdlaa

namespace Go.GL
set_option linter.unusedVariables false
/-- what an iterator says that holds L0 and yields in some order: 'step': what may come next; 'fin': what has come at the end -/
def IterG (P : Program) (gf : FuncId) (cap : List Value) {α : Type} (enc : α → List Value → Prop) (step : List α → α → Prop) (fin : List α → Prop) (L0 : List HP) (F : List Fact) : Prop :=
  ∀ (l : Nat) (J : List α → List HP),
    (∀ pre x args, step pre x → enc x args → ∀ Mi G, (∀ φ, φ ∈ F → φ ∈ G) → YSpec P l args (J pre ++ Mi) G (J (pre ++ [x]) ++ Mi)) →
    ∀ Mi G, (∀ φ, φ ∈ F → φ ∈ G) → Ctr P gf (.func (.yield l) #[] #[] :: cap) (J [] ++ (L0 ++ Mi)) G {xs : List α // fin xs} (fun _ => .tuple #[]) (fun xs => J xs.1 ++ (L0 ++ Mi)) (fun _ => G)
section
variable {P : Program} {r : Option Nat} {N : Nat} {ops : Array Oper} {rest : List Oper} {Q : Exit → Act → World → Prop} {E : Env} {ds : List Deferred} {M : List HP} {F : List Fact}
/-- A LOOP OVER A FUNCTION whose body never leaves it. -/
theorem TR.rangeFuncG {α : Type} {g : Operand} {ps : List Nat} {assign body : Code} {gf : FuncId} {cap : List Value} {enc : α → List Value → Prop} {step : List α → α → Prop} {fin : List α → Prop} {L0 : List HP} {κ : Type}
    (hg : evalO E g = some (.func (.func gf) #[] cap.toArray)) (hcall : ∀ args w, (callFunc gf args).run P w = .ok (.enter gf args) w) (hps : ∀ p, p ∈ ps → Nat.ble (p + 1) N = true) (hlen : ∀ x args, enc x args → args.length = ps.length)
    (hit : IterG P gf cap enc step fin L0 F) (J : List α → List HP) (Mr : List HP) (hJ : ∀ w, St w M F → St w (J [] ++ (L0 ++ Mr)) F)
    (E1 : List α → α → List Value → κ → Env) (M1 : List α → α → List Value → κ → List HP)
    (hassign : ∀ l pre x args, step pre x → enc x args → ∀ Mi G, (∀ φ, φ ∈ F → φ ∈ G) →
      TR P (some l) N assign (Exit.then (fun a w => ∃ i, Sat N (E1 pre x args i) [] a ∧ St w (M1 pre x args i ++ Mi) G) (fun _ _ _ => False)) (envAt ps args E) [] (J pre ++ Mi) G)
    (hbody : ∀ l pre x args i, step pre x → enc x args → ∀ Mi G, (∀ φ, φ ∈ F → φ ∈ G) →
      TR P (some l) N body (RoundQ (J (pre ++ [x]) ++ Mi) G) (E1 pre x args i) [] (M1 pre x args i ++ Mi) G)
    (k : ∀ xs, fin xs → ∀ D, NX N .normal Q E ({ target := .collected D, args := #[] } :: ds) (Pts D (.deferred (some [])) :: (J xs ++ (L0 ++ Mr))) F) :
    TR P none N (.rangeFunc g ps.toArray assign body) Q E ds M F := by
  intro a w ha hw
  refine wpIn_rangeFunc fun fn _ => ?_
  obtain ⟨rec, hrec⟩ : ∃ rec : LoopState → Option Code → Loop, rec = fun st pe => { state := st, pending := pe, fn, tmps := a.tmps, params := ps.toArray, assign, body, defers := w.heap.size } := ⟨_, rfl⟩
  obtain ⟨W1, hW1⟩ : ∃ W1, W1 = (w.alloc (.deferred (some []))).alloc (.loop (rec .ready none)) := ⟨_, rfl⟩
  have h1 : St W1 (Pts (w.heap.size + 1) (.loop (rec .ready none)) :: Pts w.heap.size (.deferred (some [])) :: (J [] ++ (L0 ++ Mr))) F := by
    have := ((hJ w hw).alloc (.deferred (some []))).alloc (.loop (rec .ready none))
    rw [World.size_alloc] at this
    rw [hW1]
    exact this
  refine ⟨w.heap.size + 1, [{ target := .collected w.heap.size, args := #[] }], W1, { target := .fn (.func gf) cap.toArray, args := #[.func (.yield (w.heap.size + 1)) #[] #[]] }, W1, gf,
    (.func (.yield (w.heap.size + 1)) #[] #[] :: cap).toArray, W1, ?_, ?_, fun _ _ => trivial, ?_, fun h => by simp at h, ?_⟩
  · rw [hW1, hrec]; exact run_enterLoop_outer _ _ _ _ _
  · have e0 := ha.eval hg
    have e1 : a.eval (.const (.func (.yield (w.heap.size + 1)) #[] #[])) = .func (.yield (w.heap.size + 1)) #[] #[] := rfl
    simp only [resolve, e0, Deferred.ofValue]
    simp [e1]
  · simp [invoke, hcall]
  · have hJ' := hit (w.heap.size + 1) (fun pre => Pts (w.heap.size + 1) (.loop (rec .ready none)) :: J pre) ?_ (Pts w.heap.size (.deferred (some [])) :: Mr) F (fun _ h => h)
    · have hp : ∀ (r : HP) (L : List HP), (r :: Pts w.heap.size (.deferred (some [])) :: (L ++ (L0 ++ Mr))).Perm ((r :: L) ++ (L0 ++ (Pts w.heap.size (.deferred (some [])) :: Mr))) := fun r L => by
        refine List.Perm.cons r ((List.perm_middle.symm).trans ?_)
        exact List.Perm.append_left L List.perm_middle.symm
      obtain ⟨hF, hc⟩ := hJ' _ (h1.perm (hp _ _))
      refine ⟨hF, fun cs hr => ?_⟩
      obtain ⟨e, w', fr, ⟨xs, he, hst⟩, rest'⟩ := hc cs hr
      subst he
      refine ⟨_, w', fr, ?_, rest'⟩
      have hst' := hst.perm (hp _ _).symm
      have hl := hst'.heap (i := 0) rfl
      refine ⟨none, _, by have := run_endLoop (P := P) hl (by rw [hrec]; simp); rw [hrec] at this; exact this, ?_⟩
      exact k xs.1 xs.2 w.heap.size _ _ (ha.ends _) ((hst'.putObj (i := 0) rfl).tail) |> fun h => by rw [ha.defers]; exact h
    · intro pre x args hx he Mi G hG W hW
      have hW : St W (Pts (w.heap.size + 1) (.loop (rec .ready none)) :: (J pre ++ Mi)) G := hW
      have hl := hW.heap (i := 0) rfl
      have hy := run_yield (P := P) (args := args.toArray) hl (by rw [hrec]; simp [hlen x args he])
      rw [hrec] at hy
      refine ⟨fn, _, assign, body, hy, roundIn_of_wpIn (F := Wd none) trivial ?_⟩
      have hS : Sat N (envAt ps args E) [] ⟨(ps.zip args).foldl (fun t (p, v) => t.setIfInBounds p v) a.tmps, []⟩ := Sat.params ps args (ha.ends []) hps
      have hz : ((ps.toArray.zip args.toArray).foldl (fun tmps (t, a) => tmps.setIfInBounds t a) a.tmps) = (ps.zip args).foldl (fun t (p, v) => t.setIfInBounds p v) a.tmps := by simp
      have hper : ∀ (r : HP) (L L' : List HP), (r :: (L ++ L')).Perm (L ++ (r :: L')) := fun r L L' => List.perm_middle.symm
      refine wpIn_mono (hassign (w.heap.size + 1) pre x args hx he (Pts (w.heap.size + 1) (.loop (rec .ready none)) :: Mi) G hG _ W (by simp only; rw [hz]; exact hS) (hW.perm (hper _ _ _))) ?_
      intro e a1 w1 hq
      cases e with
      | normal =>
        obtain ⟨i, hs1, hw1⟩ := hq
        have hw1' := hw1.perm (hper _ _ _).symm
        have hl1 := hw1'.heap (i := 0) rfl
        refine ⟨_, run_beginRound hl1 (by rw [hrec]), ?_⟩
        have hw2 := (hw1'.putObj (o' := .loop { rec .ready none with state := .busy }) (i := 0) rfl)
        refine wpIn_mono (hbody (w.heap.size + 1) pre x args i hx he (Pts (w.heap.size + 1) (.loop { rec .ready none with state := .busy }) :: Mi) G hG a1 _ hs1 (hw2.perm (hper _ _ _))) ?_
        intro e a3 w3 hq3
        cases e with
        | normal =>
          have hw3 : St w3 (J (pre ++ [x]) ++ (Pts (w.heap.size + 1) (.loop { rec .ready none with state := .busy }) :: Mi)) G := hq3
          have hw3' := hw3.perm (hper _ _ _).symm
          have hl3 := hw3'.heap (i := 0) rfl
          refine ⟨_, _, run_endRound none hl3, (), rfl, ?_⟩
          have := hw3'.putObj (o' := .loop { rec .ready none with state := .ready }) (i := 0) rfl
          rw [hrec] at this ⊢
          exact this
        | _ => exact hq3.elim
      | _ => exact hq.elim
end
end Go.GL

namespace Go.GL
def HP.emp : HP := ⟨fun _ K => K = [], fun h _ => h, fun h b hb => by rw [h] at hb; cases hb⟩
def nthM : List HP → Nat → HP
  | [], _ => HP.emp
  | a :: _, 0 => a
  | _ :: l, n + 1 => nthM l n
def dropM : Nat → List HP → List HP
  | 0, l => l
  | _ + 1, [] => []
  | n + 1, _ :: l => dropM n l
/-- the parts at the places, then all from the k-th on -/
def pikM (M : List HP) (k : Nat) : List Nat → List HP
  | [] => dropM k M
  | i :: is => nthM M i :: pikM M k is
def nthF : List Fact → Nat → Fact
  | [], _ => ⟨fun _ _ => True, fun h _ => h⟩
  | a :: _, 0 => a
  | _ :: l, n + 1 => nthF l n
def dropF : Nat → List Fact → List Fact
  | 0, l => l
  | _ + 1, [] => []
  | n + 1, _ :: l => dropF n l
def pikF (F : List Fact) (k : Nat) : List Nat → List Fact
  | [] => dropF k F
  | i :: is => nthF F i :: pikF F k is
theorem dropM_eq : ∀ (M : List HP) (k : Nat), dropM k M = M.drop k
  | _, 0 => by simp [dropM]
  | [], _ + 1 => by simp [dropM]
  | _ :: l, k + 1 => by simp [dropM, dropM_eq l k]
theorem nthM_get : ∀ {M : List HP} {i : Nat} (h : i < M.length), nthM M i = M[i]
  | [], _, h => absurd h (by simp)
  | _ :: _, 0, _ => rfl
  | _ :: l, n + 1, h => by simp only [List.length_cons] at h; show nthM l n = _; rw [nthM_get (by omega)]; rfl
theorem nthM_big : ∀ {M : List HP} {i : Nat}, M.length ≤ i → nthM M i = HP.emp
  | [], _, _ => rfl
  | _ :: _, 0, h => absurd h (by simp)
  | _ :: l, n + 1, h => nthM_big (M := l) (by simp only [List.length_cons] at h; omega)
theorem nthF_mem (F : List Fact) (i : Nat) : nthF F i ∈ F ∨ ∀ w K, (nthF F i).p w K := by
  induction F generalizing i with
  | nil => exact .inr fun _ _ => trivial
  | cons a l ih =>
    cases i with
    | zero => exact .inl (.head _)
    | succ n => rcases ih n with h | h; exact .inl (.tail _ h); exact .inr h
theorem dropF_mem {φ : Fact} : ∀ {F : List Fact} {k : Nat}, φ ∈ dropF k F → φ ∈ F
  | _, 0, h => h
  | [], _ + 1, h => h
  | _ :: _, _ + 1, h => .tail _ (dropF_mem h)
theorem St.toF {w : World} {M : List HP} {F : List Fact} (k : Nat) (fs : List Nat) (h : St w M F) : St w M (pikF F k fs) := by
  obtain ⟨K, ho, hn, hf⟩ := h
  refine ⟨K, ho, hn, ?_⟩
  induction fs with
  | nil => exact fun φ hφ => hf φ (dropF_mem hφ)
  | cons i is ih =>
    intro φ hφ
    rcases List.mem_cons.1 hφ with e | e
    · subst e
      rcases nthF_mem F i with h | h
      · exact hf _ h
      · exact h w K
    · exact ih φ e
theorem St.emp {w : World} {M : List HP} {F : List Fact} (h : St w M F) : St w (HP.emp :: M) F := by
  obtain ⟨K, ho, hn, hf⟩ := h
  exact ⟨K, ⟨[], K, rfl, rfl, ho⟩, hn, hf⟩
theorem St.dropped {w : World} {F : List Fact} : ∀ {A B : List HP}, St w (A ++ B) F → St w B F
  | [], _, h => h
  | _ :: A, B, h => St.dropped (A := A) (B := B) (by simpa using h.tail)
/-- each place once, none beyond k -/
def okM (k : Nat) : List Nat → Bool
  | [] => true
  | i :: is => Nat.blt i k && !(is.any fun j => Nat.beq i j) && okM k is
theorem okM_is {k : Nat} : ∀ {is : List Nat}, okM k is = true → is.Nodup ∧ ∀ i, i ∈ is → i < k
  | [], _ => ⟨List.nodup_nil, fun _ h => absurd h (by simp)⟩
  | i :: is, h => by
    simp only [okM, Bool.and_eq_true] at h
    obtain ⟨h1, h2⟩ := okM_is h.2
    have h3 : i ∉ is := by
      intro hm
      have : is.any (fun j => Nat.beq i j) = true := List.any_eq_true.2 ⟨i, hm, Nat.beq_refl i⟩
      rw [this] at h
      exact absurd h.1.2 (by simp)
    refine ⟨List.nodup_cons.2 ⟨h3, h1⟩, fun j hj => ?_⟩
    rcases List.mem_cons.1 hj with e | e
    · subst e
      have := h.1.1
      simpa [Nat.blt_eq] using this
    · exact h2 j e
theorem range_map_get (M : List HP) (k : Nat) (hk : k ≤ M.length) : (List.range k).map (nthM M) = M.take k := by
  apply List.ext_getElem (by simp; omega)
  intro i h1 h2
  simp at h1
  simp [nthM_get (show i < M.length by omega)]
theorem pickM_eq (M : List HP) (k : Nat) : ∀ (is : List Nat), pikM M k is = is.map (nthM M) ++ M.drop k
  | [] => by simp [pikM, dropM_eq]
  | i :: is => by simp [pikM, pickM_eq M k is]
theorem nodup_subperm {is : List Nat} {k : Nat} (h1 : is.Nodup) (h2 : ∀ i, i ∈ is → i < k) : ∃ js, (is ++ js).Perm (List.range k) := by
  refine ⟨(List.range k).filter (fun j => decide (j ∉ is)), ?_⟩
  have hn : (is ++ (List.range k).filter (fun j => decide (j ∉ is))).Nodup := by
    refine List.nodup_append.2 ⟨h1, (List.nodup_range).sublist List.filter_sublist, ?_⟩
    intro a ha b hb e
    subst e
    have := (List.mem_filter.1 hb).2
    simp at this
    exact this ha
  refine (List.perm_ext_iff_of_nodup hn List.nodup_range).2 fun a => ?_
  constructor
  · intro h
    rcases List.mem_append.1 h with h | h
    · exact List.mem_range.2 (h2 a h)
    · exact (List.mem_filter.1 h).1
  · intro h
    by_cases ha : a ∈ is
    · exact List.mem_append.2 (.inl ha)
    · exact List.mem_append.2 (.inr (List.mem_filter.2 ⟨h, by simpa using ha⟩))
/-- beyond the end there is nothing -/
theorem St.pad {w : World} {M : List HP} {F : List Fact} (k : Nat) (h : St w M F) : St w ((List.range k).map (nthM M) ++ M.drop k) F := by
  by_cases hk : k ≤ M.length
  · rw [range_map_get M k hk, List.take_append_drop]; exact h
  · have e1 : (List.range k).map (nthM M) = M ++ List.replicate (k - M.length) HP.emp := by
      apply List.ext_getElem (by simp; omega)
      intro i h1 h2
      simp at h1
      by_cases hi : i < M.length
      · simp [List.getElem_append_left hi, nthM_get hi]
      · rw [List.getElem_append_right (by omega)]
        simp [nthM_big (M := M) (i := i) (by omega)]
    rw [e1, List.drop_eq_nil_of_le (by omega), List.append_nil]
    have : ∀ n, St w (List.replicate n HP.emp ++ M) F := by
      intro n
      induction n with
      | zero => simpa using h
      | succ n ih => simpa [List.replicate_succ] using ih.emp
    exact (this _).perm List.perm_append_comm
theorem St.toM {w : World} {M : List HP} {F : List Fact} (k : Nat) (is : List Nat) (ok : okM k is = true) (h : St w M F) : St w (pikM M k is) F := by
  obtain ⟨h1, h2⟩ := okM_is ok
  obtain ⟨js, hp⟩ := nodup_subperm h1 h2
  rw [pickM_eq]
  have h3 := h.pad k
  have h4 : ((List.range k).map (nthM M) ++ M.drop k).Perm (js.map (nthM M) ++ (is.map (nthM M) ++ M.drop k)) := by
    have := (hp.map (nthM M)).symm
    rw [List.map_append] at this
    refine (this.append_right _).trans ?_
    rw [← List.append_assoc]
    exact List.perm_append_comm.append_right _
  exact St.dropped (h3.perm h4)
/-- blocks and facts by their places; what is not named is let go -/
theorem St.to {w : World} {M : List HP} {F : List Fact} (k : Nat) (is : List Nat) (kf : Nat) (fs : List Nat) (ok : okM k is = true) (h : St w M F) : St w (pikM M k is) (pikF F kf fs) := (h.toM k is ok).toF kf fs
/-- all the k parts, each once: what a call takes stands ahead -/
theorem Ctr.pick {P : Program} {f : FuncId} {args : List Value} {M : List HP} {F : List Fact} {ι : Type} {val : ι → Value} {M' : ι → List HP} {F' : ι → List Fact} (k : Nat) (is : List Nat) (ok : okM k is = true)
    (h : Ctr P f args (pikM M k is) F ι val M' F') : Ctr P f args M F ι val M' F' := fun w hw => h w (hw.toM k is ok)
section
variable {P : Program} {r : Option Nat} {N : Nat} {ops : Array Oper} {rest : List Oper} {Q : Exit → Act → World → Prop} {E : Env} {ds : List Deferred} {M : List HP} {F : List Fact}
theorem RL.pick (k : Nat) (is : List Nat) (ok : okM k is = true) (h : RL P r N ops rest Q E ds (pikM M k is) F) : RL P r N ops rest Q E ds M F := RL.weak (fun _ hw => hw.toM k is ok) h
theorem TR.pick {c : Code} (k : Nat) (is : List Nat) (ok : okM k is = true) (h : TR P r N c Q E ds (pikM M k is) F) : TR P r N c Q E ds M F := TR.weak (fun _ hw => hw.toM k is ok) h
theorem RL.to (k : Nat) (is : List Nat) (kf : Nat) (fs : List Nat) (ok : okM k is = true) (h : RL P r N ops rest Q E ds (pikM M k is) (pikF F kf fs)) : RL P r N ops rest Q E ds M F := RL.weak (fun _ hw => hw.to k is kf fs ok) h
theorem TR.to {c : Code} (k : Nat) (is : List Nat) (kf : Nat) (fs : List Nat) (ok : okM k is = true) (h : TR P r N c Q E ds (pikM M k is) (pikF F kf fs)) : TR P r N c Q E ds M F := TR.weak (fun _ hw => hw.to k is kf fs ok) h
end
/-! ### Many parts as one -/
/-- all the parts of a list, as one part -/
def Al (L : List HP) : HP where
  p w K := Own w L K
  loc := Own.loc
  lt := Own.lt
theorem St.alOpen {w : World} {L M : List HP} {F : List Fact} (h : St w (Al L :: M) F) : St w (L ++ M) F := by
  obtain ⟨K, ⟨K1, K2, e, h1, h2⟩, hn, hf⟩ := h
  exact ⟨K, Own.append.2 ⟨K1, K2, e, h1, h2⟩, hn, hf⟩
theorem St.alClose {w : World} {L M : List HP} {F : List Fact} (h : St w (L ++ M) F) : St w (Al L :: M) F := by
  obtain ⟨K, ho, hn, hf⟩ := h
  obtain ⟨K1, K2, e, h1, h2⟩ := Own.append.1 ho
  exact ⟨K, ⟨K1, K2, e, h1, h2⟩, hn, hf⟩
theorem St.alSnoc {w : World} {L M : List HP} {r : HP} {F : List Fact} (h : St w (r :: Al L :: M) F) : St w (Al (L ++ [r]) :: M) F := by
  refine St.alClose ?_
  have h1 := St.alOpen (h.perm (.swap _ _ _))
  rw [List.append_assoc]
  exact h1
theorem St.alNil {w : World} {M : List HP} {F : List Fact} (h : St w M F) : St w (Al [] :: M) F := St.alClose h
theorem St.alCut {w : World} {L M : List HP} {F : List Fact} (i : Nat) (hi : i < L.length) (h : St w (Al L :: M) F) : St w (L[i] :: Al (L.take i) :: Al (L.drop (i + 1)) :: M) F := by
  have h1 := St.alOpen h
  have e : L ++ M = L.take i ++ (L[i] :: (L.drop (i + 1) ++ M)) := by
    have e2 : L = L.take i ++ (L[i] :: L.drop (i + 1)) := by rw [← List.drop_eq_getElem_cons hi, List.take_append_drop]
    exact (congrArg (· ++ M) e2).trans (by simp only [List.append_assoc, List.cons_append])
  rw [e] at h1
  have h2 : St w (L[i] :: (L.take i ++ (L.drop (i + 1) ++ M))) F := h1.perm List.perm_middle
  have h3 : St w (L.drop (i + 1) ++ (L[i] :: (L.take i ++ M))) F := h2.perm ((List.Perm.cons _ (perm_mid _ _ _)).trans List.perm_middle.symm)
  have h4 := St.alClose h3
  have h5 : St w (L.take i ++ (L[i] :: Al (L.drop (i + 1)) :: M)) F := h4.perm (by
    refine (List.Perm.swap _ _ _).trans ?_
    refine (List.Perm.cons _ (List.perm_middle.symm)).trans ?_
    exact List.perm_middle.symm)
  exact (St.alClose h5).perm (.swap _ _ _)
theorem St.alJoin {w : World} {L1 L2 M : List HP} {r : HP} {F : List Fact} (h : St w (r :: Al L1 :: Al L2 :: M) F) : St w (Al (L1 ++ r :: L2) :: M) F := by
  refine St.alClose ?_
  have h1 : St w (L1 ++ (r :: Al L2 :: M)) F := St.alOpen (h.perm (.swap _ _ _))
  have h2 : St w (Al L2 :: (L1 ++ (r :: M))) F := h1.perm ((List.Perm.append_left _ (.swap _ _ _)).trans List.perm_middle)
  have h3 : St w (L2 ++ (L1 ++ (r :: M))) F := St.alOpen h2
  rw [List.append_assoc]
  have h4 : St w (L1 ++ (L2 ++ (r :: M))) F := h3.perm (perm_mid _ _ _)
  exact h4.perm (List.Perm.append_left L1 List.perm_middle)
end Go.GL

namespace Go.GL
set_option linter.unusedVariables false
/-! ### What a disk shows -/
def vB (fs : Fs) (n : Nat) : List UInt8 := (fget fs n).b
def vD (fs : Fs) (n : Nat) : Nat := (fget fs n).dur
def filesB (B : Nat → List UInt8) : List Nat := (List.range 64).filter fun n => !(B n).isEmpty
def keepK (keep : List Int) (i room : Nat) : Nat := match keep[i]? with
  | some k => (max 0 (min k (room : Int))).toNat
  | none => 0
theorem keepK_le (keep : List Int) (i room : Nat) : keepK keep i room ≤ room := by
  unfold keepK; split <;> omega
/-- what a crash lets stand of file n, nothing inverted -/
def cutB (B : Nat → List UInt8) (D : Nat → Nat) (keep : List Int) (n : Nat) : List UInt8 := (B n).take (D n + keepK keep ((filesB B).idxOf n) ((B n).length - D n))
def looseB (B : Nat → List UInt8) (D : Nat → Nat) (keep : List Int) : List (Nat × Nat) := (filesB B).flatMap fun n => (List.range' (D n) ((cutB B D keep n).length - D n)).map fun j => (n, j)
def flipB (x : UInt8) (r : Nat) : UInt8 := UInt8.ofNat (x.toNat ^^^ 2 ^ (7 - r))
def turnB (b : List UInt8) (j r : Nat) : List UInt8 := b.set j (flipB (b.getD j 0) r)
def crashB (B : Nat → List UInt8) (D : Nat → Nat) (keep : List Int) (flip : Int) (n : Nat) : List UInt8 :=
  if flip < 0 then cutB B D keep n else
  match (looseB B D keep)[flip.toNat % (8 * (looseB B D keep).length) / 8]? with
  | some (m, j) => if n = m then turnB (cutB B D keep n) j (flip.toNat % (8 * (looseB B D keep).length) % 8) else cutB B D keep n
  | none => cutB B D keep n
theorem cutB_len (B : Nat → List UInt8) (D : Nat → Nat) (keep : List Int) (n : Nat) : (cutB B D keep n).length ≤ (B n).length := by
  unfold cutB; rw [List.length_take]; omega
theorem turnB_len (b : List UInt8) (j r : Nat) : (turnB b j r).length = b.length := by unfold turnB; rw [List.length_set]
theorem crashB_len (B : Nat → List UInt8) (D : Nat → Nat) (keep : List Int) (flip : Int) (n : Nat) : (crashB B D keep flip n).length = (cutB B D keep n).length := by
  unfold crashB
  split
  · rfl
  · split
    · split
      · rw [turnB_len]
      · rfl
    · rfl
theorem crashB_calm (B : Nat → List UInt8) (D : Nat → Nat) (keep : List Int) (flip : Int) (n : Nat) (h : flip < 0) : crashB B D keep flip n = cutB B D keep n := by unfold crashB; rw [if_pos h]
/-- what a crash leaves -/
structure CrashR (s : Ds) (keep : List Int) (flip : Int) (t : Ds) : Prop where
  m : t.m = s.m
  room : t.room = s.room
  off : t.off = false
  armed : t.armed = false
  left : t.left = s.left
  ok : OkF t.fs
  b : ∀ n, n < 64 → vB t.fs n = crashB (vB s.fs) (vD s.fs) keep flip n
  d : ∀ n, n < 64 → vD t.fs n = (vB t.fs n).length
/-! ### The rows that a crash makes -/
structure CrR where
  n : Nat
  b : List UInt8
  d : Nat
  oa : Option Addr
  c : Nat
def CrR.f (r : CrR) : Fl := ⟨r.b, r.d, r.oa, r.c⟩
def crOwn (e : Nat) (r : CrR) : HP := OwnSl e 1 r.oa r.b.length r.c (bytesV r.b)
def crPtr (r : CrR) (j : Nat) : Value := .pointer (r.oa.map fun a => a.add (j * 1))
def crLoose (rs : List CrR) : List (CrR × Nat) := rs.flatMap fun r => (List.range' r.d (r.b.length - r.d)).map fun j => (r, j)
def crPtrs (rs : List CrR) : List Value := (crLoose rs).map fun x => crPtr x.1 x.2
theorem crLoose_snoc (rs : List CrR) (r : CrR) : crLoose (rs ++ [r]) = crLoose rs ++ (List.range' r.d (r.b.length - r.d)).map fun j => (r, j) := by
  unfold crLoose; rw [List.flatMap_append]; simp
theorem crLoose_mem {rs : List CrR} {x : CrR × Nat} (h : x ∈ crLoose rs) : x.1 ∈ rs ∧ x.1.d ≤ x.2 ∧ x.2 < x.1.b.length := by
  obtain ⟨r, hr, hx⟩ := List.mem_flatMap.1 h
  obtain ⟨j, hj, rfl⟩ := List.mem_map.1 hx
  have := List.mem_range'_1.1 hj
  exact ⟨hr, this.1, by have := this.2; show j < r.b.length; omega⟩
/-- the files when the first i of them (in order) have been cut -/
structure CrSt (s : Ds) (keep : List Int) (i : Nat) (fs : Fs) (rs : List CrR) : Prop where
  ok : OkF fs
  len : rs.length = i
  n : rs.map CrR.n = (filesB (vB s.fs)).take i
  b : ∀ r, r ∈ rs → r.b = cutB (vB s.fs) (vD s.fs) keep r.n ∧ r.d = vD s.fs r.n ∧ r.d ≤ r.b.length ∧ r.b.length ≤ r.c
  done : ∀ r, r ∈ rs → fget fs r.n = (if r.b = [] then fl0 else r.f)
  rest : ∀ k : Nat, k ∉ rs.map CrR.n → fget fs k = fget s.fs k
end Go.GL

namespace Go.GL
structure Ed where
  f : Int
  t : Int
  x : List UInt8
abbrev Ed.c (e : Ed) : List Value := [I e.f, I e.t, S e.x]
def edC : List Ed → List Value
  | [] => []
  | e :: es => e.c ++ edC es
theorem edC_length : ∀ es : List Ed, (edC es).length = es.length * 3
  | [] => rfl
  | e :: es => by rw [edC, List.length_append, edC_length es]; simp; omega
theorem edC_at : ∀ {es : List Ed} {k j : Nat} {v : Value} (h : k < es.length), (es[k].c)[j]? = some v → (edC es)[k * 3 + j]? = some v
  | e :: es, 0, j, v, h, hv => by
    rw [edC, Nat.zero_mul, Nat.zero_add, List.getElem?_append_left (by have := (List.getElem?_eq_some_iff.1 hv).1; simpa using this)]
    exact hv
  | e :: es, k + 1, j, v, h, hv => by
    rw [edC, List.getElem?_append_right (by simp; omega)]
    have := edC_at (es := es) (k := k) (j := j) (v := v) (by simpa using h) hv
    rw [← this]
    congr 1
    simp; omega
theorem edC_one : ∀ es : List Ed, (edC es).all Value.oneCell' = true
  | [] => rfl
  | e :: es => by
    rw [edC, List.all_append, edC_one es]; rfl
theorem edC_append : ∀ a b : List Ed, edC (a ++ b) = edC a ++ edC b
  | [], b => rfl
  | e :: es, b => by rw [List.cons_append, edC, edC, edC_append es b, List.append_assoc]
theorem run_ed {P : Program} {w : World} {K : List Nat} {b off T k : Nat} {es : List Ed} (h : CellsAt w K b off (edC es)) (ht : tyAgg P T 3 = true) (hk : k < es.length) : Reads P w T ⟨b, off + (k : Int).toNat * 3, none⟩ (.agg (es[k].c).toArray) := by
  refine run_loadVar_agg ht rfl fun j v hv => ?_
  rw [addr_add, Nat.add_assoc]
  exact h.2.2 _ v (edC_at hk hv)
/-- the first error of edits, from an offset on -/
def sound1 (size : Int) : Int → List Ed → Int
  | _, [] => 0
  | last, e :: es => if e.f < 0 ∨ e.t < e.f ∨ size < e.t then 5 else if e.f < last then 1 else sound1 size e.t es
def soundE (size : Int) (es : List Ed) : Int := if 64 < es.length then 4 else sound1 size 0 es
theorem sound1_cons {size last : Int} {e : Ed} {es : List Ed} (h : sound1 size last (e :: es) = 0) : 0 ≤ e.f ∧ e.f ≤ e.t ∧ e.t ≤ size ∧ last ≤ e.f ∧ sound1 size e.t es = 0 := by
  rw [sound1] at h
  by_cases h1 : e.f < 0 ∨ e.t < e.f ∨ size < e.t
  · rw [if_pos h1] at h; exact absurd h (by decide)
  · rw [if_neg h1] at h
    by_cases h2 : e.f < last
    · rw [if_pos h2] at h; exact absurd h (by decide)
    · rw [if_neg h2] at h
      exact ⟨by omega, by omega, by omega, by omega, h⟩
theorem sound1_bad {size last : Int} {e : Ed} {es : List Ed} (h1 : e.f < 0 ∨ e.t < e.f ∨ size < e.t) : sound1 size last (e :: es) = 5 := by rw [sound1, if_pos h1]
theorem sound1_low {size last : Int} {e : Ed} {es : List Ed} (h1 : ¬ (e.f < 0 ∨ e.t < e.f ∨ size < e.t)) (h2 : e.f < last) : sound1 size last (e :: es) = 1 := by rw [sound1, if_neg h1, if_pos h2]
theorem sound1_on {size last : Int} {e : Ed} {es : List Ed} (h1 : ¬ (e.f < 0 ∨ e.t < e.f ∨ size < e.t)) (h2 : ¬ e.f < last) : sound1 size last (e :: es) = sound1 size e.t es := by rw [sound1, if_neg h1, if_neg h2]
/-- the text behind edits, from an offset on -/
def applyGo (s : List UInt8) : Nat → List Ed → List UInt8
  | q, [] => s.drop q
  | q, e :: es => (s.take e.f.toNat).drop q ++ (e.x ++ applyGo s e.t.toNat es)
def applyE (s : List UInt8) (es : List Ed) : List UInt8 × Int := if soundE s.length es = 0 then (applyGo s 0 es, 0) else ([], soundE s.length es)
theorem soundE_sound1 {size : Int} {es : List Ed} (h : soundE size es = 0) : sound1 size 0 es = 0 := by
  unfold soundE at h
  split at h
  · exact absurd h (by decide)
  · exact h
/-- what Diff finds -/
structure DiffOk (a b : List UInt8) (es : List Ed) : Prop where
  one : es.length ≤ 1
  sound : sound1 a.length 0 es = 0
  apply : applyGo a 0 es = b
theorem diff_none {a b : List UInt8} (h : a = b) : DiffOk a b [] := ⟨by simp, rfl, by rw [h]; simp [applyGo]⟩
theorem drop_split {α : Type} {l : List α} {p n : Nat} (h : p ≤ n) : l.drop p = (l.take n).drop p ++ l.drop n := by
  conv => lhs; rw [← List.take_append_drop n l]
  rw [List.drop_append]
  congr 1
  rw [List.length_take]
  rcases Nat.le_total n l.length with h1 | h1
  · rw [Nat.min_eq_left h1, show p - n = 0 from by omega, List.drop_zero]
  · rw [List.drop_of_length_le h1]; simp
theorem diff_some {a b : List UInt8} {p q : Nat} (hp : a.take p = b.take p) (hpa : p + q ≤ a.length) (hpb : p + q ≤ b.length) (hq : a.drop (a.length - q) = b.drop (b.length - q)) :
    DiffOk a b [⟨p, (a.length - q : Nat), (b.take (b.length - q)).drop p⟩] := by
  refine ⟨by simp, ?_, ?_⟩
  · rw [sound1, if_neg (by simp only; omega), if_neg (by simp only; omega), sound1]
  · simp only [applyGo, Int.toNat_natCast, List.drop_zero]
    rw [hp, hq, ← drop_split (by omega), List.take_append_drop]
theorem suffix_step {a b : List UInt8} {q : Nat} (ha : q < a.length) (hb : q < b.length) (hq : a.drop (a.length - q) = b.drop (b.length - q)) (he : a[a.length - 1 - q] = b[b.length - 1 - q]) : a.drop (a.length - (q + 1)) = b.drop (b.length - (q + 1)) := by
  rw [show a.length - (q + 1) = a.length - 1 - q from by omega, show b.length - (q + 1) = b.length - 1 - q from by omega, List.drop_eq_getElem_cons (l := a) (i := a.length - 1 - q) (by omega), List.drop_eq_getElem_cons (l := b) (i := b.length - 1 - q) (by omega), he, show a.length - 1 - q + 1 = a.length - q from by omega, show b.length - 1 - q + 1 = b.length - q from by omega, hq]
theorem takeEq_step {a b : List UInt8} {p : Nat} (ha : p < a.length) (hb : p < b.length) (hp : a.take p = b.take p) (he : a[p] = b[p]) : a.take (p + 1) = b.take (p + 1) := by
  rw [List.take_succ_eq_append_getElem ha, List.take_succ_eq_append_getElem hb, hp, he]
theorem byte_eq {u v : UInt8} (h : (u.toNat : Int) = (v.toNat : Int)) : u = v := UInt8.toNat_inj.1 (by omega)
end Go.GL

namespace Go.GL
set_option linter.unusedVariables false
/-! ### Where characters begin -/
def isCont (s : List UInt8) (b : Nat) : Prop := ∃ c, s[b]? = some c ∧ 128 ≤ c.toNat ∧ c.toNat < 192
def IsB (s : List UInt8) (b : Nat) : Prop := b = 0 ∨ s.length ≤ b ∨ ¬ isCont s b
/-! ### Edits made one behind the other -/
/-- the edits so far end at an offset -/
def SoundTo (n : Int) (es : List Ed) (q : Int) : Prop := ∀ rest, sound1 n 0 (es ++ rest) = sound1 n q rest
theorem SoundTo.nil (n : Int) : SoundTo n [] 0 := fun _ => rfl
theorem SoundTo.snoc {n : Int} {es : List Ed} {q : Int} (h : SoundTo n es q) {e : Ed} (h0 : 0 ≤ q) (h1 : q ≤ e.f) (h2 : e.f ≤ e.t) (h3 : e.t ≤ n) : SoundTo n (es ++ [e]) e.t := fun rest => by
  rw [List.append_assoc, h, List.cons_append, List.nil_append, sound1_on (by omega) (by omega)]
theorem SoundTo.sound {n : Int} {es : List Ed} {q : Int} (h : SoundTo n es q) : sound1 n 0 es = 0 := by
  have := h []
  rw [List.append_nil] at this
  rw [this]; rfl
/-- an edit whose text is at most k bytes longer than what it takes away -/
def Grow (k : Nat) (e : Ed) : Prop := (e.x.length : Int) ≤ e.t - e.f + k
def txs (es : List Ed) : Nat := (es.map fun e => e.x.length).sum
theorem apply_len {s : List UInt8} {k : Nat} : ∀ {es : List Ed} {q : Nat}, q ≤ s.length → sound1 s.length q es = 0 → (∀ e, e ∈ es → Grow k e) → (applyGo s q es).length ≤ s.length - q + k * es.length ∧ txs es ≤ s.length - q + k * es.length
  | [], q, hq, _, _ => by simp [applyGo, txs]
  | e :: es, q, hq, hs, hg => by
    obtain ⟨h1, h2, h3, h4, h5⟩ := sound1_cons hs
    have hg1 := hg e (.head _)
    unfold Grow at hg1
    have ht : ((e.t.toNat : Nat) : Int) = e.t := Int.toNat_of_nonneg (by omega)
    have ih := apply_len (s := s) (k := k) (es := es) (q := e.t.toNat) (by omega) (by rw [ht]; exact h5) (fun x hx => hg x (.tail _ hx))
    have e1 : txs (e :: es) = e.x.length + txs es := by simp [txs]
    rw [e1, applyGo]
    simp only [List.length_append, List.length_drop, List.length_take, List.length_cons, Nat.mul_add, Nat.mul_one]
    omega
theorem mem_snoc_all {α : Type} {p : α → Prop} {l : List α} {a : α} (h : ∀ x, x ∈ l → p x) (ha : p a) : ∀ x, x ∈ l ++ [a] → p x := fun x hx => by
  rcases List.mem_append.1 hx with h1 | h1
  · exact h x h1
  · rw [List.mem_singleton.1 h1]; exact ha
/-! ### Their bytes -/
def encE (e : Ed) : List UInt8 := encU (zz e.f) ++ (encU (zz e.t) ++ encR e.x)
def encL : List Ed → List UInt8
  | [] => []
  | e :: es => encE e ++ encL es
def encEs (es : List Ed) : List UInt8 := encU (zz es.length) ++ encL es
theorem encL_append : ∀ a b : List Ed, encL (a ++ b) = encL a ++ encL b
  | [], b => rfl
  | e :: a, b => by rw [List.cons_append, encL, encL, encL_append a b, List.append_assoc]
theorem encL_snoc (a : List Ed) (e : Ed) : encL (a ++ [e]) = encL a ++ encU (zz e.f) ++ encU (zz e.t) ++ encR e.x := by
  rw [encL_append]; simp [encL, encE, List.append_assoc]
def EdOk (n : Int) (e : Ed) : Prop := 0 ≤ e.f ∧ e.f ≤ n ∧ 0 ≤ e.t ∧ e.t ≤ n
theorem sound_ok {n : Int} : ∀ {es : List Ed} {q : Int}, 0 ≤ q → sound1 n q es = 0 → ∀ e, e ∈ es → EdOk n e
  | [], _, _, _, e, he => absurd he (by simp)
  | a :: es, q, hq, hs, e, he => by
    obtain ⟨h1, h2, h3, h4, h5⟩ := sound1_cons hs
    rcases List.mem_cons.1 he with rfl | he
    · exact ⟨h1, by omega, by omega, h3⟩
    · exact sound_ok (by omega) h5 e he
theorem encL_len {n : Int} (hn : n ≤ 4611686018427387904) : ∀ {es : List Ed}, (∀ e, e ∈ es → EdOk n e ∧ e.x.length ≤ 4611686018427387904) → (encL es).length ≤ 30 * es.length + txs es
  | [], _ => by simp [encL, txs]
  | e :: es, h => by
    have ih := encL_len hn (es := es) fun x hx => h x (.tail _ hx)
    obtain ⟨⟨h1, h2, h3, h4⟩, h5⟩ := h e (.head _)
    have a1 := encU_len10 (zz_lt (n := e.f) (by omega) (by omega))
    have a2 := encU_len10 (zz_lt (n := e.t) (by omega) (by omega))
    have a3 := encU_len10 (n := e.x.length) (by omega)
    have e1 : txs (e :: es) = e.x.length + txs es := by simp [txs]
    rw [e1, encL, encE]
    unfold encR
    simp only [List.length_append, List.length_cons]
    omega
theorem encEs_len {s : List UInt8} {k : Nat} {es : List Ed} (hs : s.length ≤ 1000000) (h : sound1 s.length 0 es = 0) (hg : ∀ e, e ∈ es → Grow k e) (hk : k ≤ 1000) (hl : es.length ≤ 1000) : (encEs es).length ≤ 10 + (30 + k) * es.length + s.length := by
  have h1 := (apply_len (s := s) (k := k) (q := 0) (Nat.zero_le _) h hg).2
  have hb : k * es.length ≤ 1000000 := Nat.mul_le_mul hk hl
  have hx : ∀ es' : List Ed, ∀ e, e ∈ es' → e.x.length ≤ txs es' := by
    intro es'
    induction es' with
    | nil => intro e he; exact absurd he (by simp)
    | cons a l ih =>
      intro e he
      have e1 : txs (a :: l) = a.x.length + txs l := by simp [txs]
      rw [e1]
      rcases List.mem_cons.1 he with rfl | he
      · omega
      · have := ih e he; omega
  have h2 := encL_len (n := s.length) (by omega) (es := es) fun e he => ⟨sound_ok (Int.le_refl 0) h e he, by have := hx es e he; omega⟩
  have h3 := encU_len10 (zz_lt (n := (es.length : Int)) (by omega) (by omega))
  rw [Nat.add_mul]
  unfold encEs
  rw [List.length_append]
  omega
/-- what is written when k of them are -/
def wrL (es : List Ed) (k : Nat) : List UInt8 := encU (zz es.length) ++ encL (es.take k)
theorem wrL_zero (es : List Ed) : wrL es 0 = [] ++ encU (zz es.length) := by unfold wrL; simp [encL]
theorem wrL_succ {es : List Ed} {k : Nat} (h : k < es.length) : wrL es (k + 1) = ((wrL es k ++ encU (zz es[k].f)) ++ encU (zz es[k].t)) ++ encR es[k].x := by
  unfold wrL; rw [List.take_succ_eq_append_getElem h, encL_snoc]; simp only [List.append_assoc]
theorem wrL_all {es : List Ed} {k : Nat} (h : k = es.length) : wrL es k = encEs es := by subst h; unfold wrL encEs; rw [List.take_length]
theorem wrL_len (es : List Ed) (k : Nat) : (wrL es k).length ≤ (encEs es).length := by
  unfold wrL encEs
  have h : encL es = encL (es.take k) ++ encL (es.drop k) := by rw [← encL_append, List.take_append_drop]
  rw [h]; simp only [List.length_append]; omega
theorem encL_drop {es : List Ed} {k : Nat} (h : k < es.length) : encL (es.drop k) = encU (zz es[k].f) ++ (encU (zz es[k].t) ++ (encR es[k].x ++ encL (es.drop (k + 1)))) := by
  rw [List.drop_eq_getElem_cons h, encL, encE]; simp only [List.append_assoc]
theorem encL_dropLen (es : List Ed) (k : Nat) : (encL (es.drop k)).length ≤ (encEs es).length := by
  unfold encEs
  have h : encL es = encL (es.take k) ++ encL (es.drop k) := by rw [← encL_append, List.take_append_drop]
  rw [h]; simp only [List.length_append]; omega
theorem edC_take {es : List Ed} {k : Nat} (h : k < es.length) : edC (es.take (k + 1)) = edC (es.take k) ++ es[k].c := by
  rw [List.take_succ_eq_append_getElem h, edC_append]; simp [edC]
structure RkX where
  k : Nat
  oa : Option Addr
  c : Nat
  la : Option Addr
  lc : Nat
theorem rdI_enc {n : Int} (h0 : -9223372036854775808 ≤ n) (h1 : n ≤ 9223372036854775807) (rest : List UInt8) : uz (rdU (encU (zz n) ++ rest) 0).1 = n ∧ (rdU (encU (zz n) ++ rest) 0).2 = (rest, 0) := by
  rw [rdU_enc (zz_lt h0 h1)]
  exact ⟨uz_zz n, rfl⟩
end Go.GL

namespace Go.GL
set_option linter.unusedVariables false
def strsV (l : List (List UInt8)) : List Value := l.map fun x => S x
theorem strsV_length (l : List (List UInt8)) : (strsV l).length = l.length := by simp [strsV]
theorem strs_get {l : List (List UInt8)} {k : Nat} (h : k < l.length) : (strsV l)[((k : Nat) : Int).toNat * 1]? = some (S l[k]) := by
  rw [Int.toNat_natCast, Nat.mul_one]; simp [strsV, h]
theorem strsV_one (l : List (List UInt8)) : (strsV l).all Value.oneCell' = true := by simp [strsV, Value.oneCell']
theorem strsV_snoc (l : List (List UInt8)) (x : List UInt8) : strsV (l ++ [x]) = strsV l ++ [S x] := by simp [strsV]
theorem strsV_ne {l : List (List UInt8)} {k : Nat} (h : k < l.length) : strsV l ≠ [] := by
  intro e
  have := congrArg List.length e
  rw [strsV_length] at this
  simp at this
  subst this
  simp at h
theorem short_all {l : List (List UInt8)} {n : Nat} (h : (l.all fun x => Nat.ble x.length n) = true) {k : Nat} (hk : k < l.length) : l[k].length ≤ n :=
  Nat.le_of_ble_eq_true (List.all_eq_true.1 h _ (List.getElem_mem hk))
theorem St.boxKeep {w : World} {M : List HP} {F : List Fact} {b t : Nat} {cs : List Value} (h : St w (Box b t cs :: M) F) : St w M (CellsF b 0 cs :: F) := h.keep
/-- edits that are somewhere in memory -/
structure EdX where
  es : List Ed
  oa : Option Addr
  c : Nat
structure SmX where
  i : Nat
  q : Nat
  es : List Ed
  oa : Option Addr
  c : Nat
def EdsOk (tx : List UInt8) (es : List Ed) : Prop := es.length ≤ 5 ∧ sound1 tx.length 0 es = 0 ∧ ∀ e, e ∈ es → Grow 5 e
theorem EdsOk.sound {tx : List UInt8} {es : List Ed} (h : EdsOk tx es) : soundE tx.length es = 0 := by
  unfold soundE; rw [if_neg (by have := h.1; omega)]; exact h.2.1
theorem EdsOk.len {tx : List UInt8} {es : List Ed} (h : EdsOk tx es) : (applyGo tx 0 es).length ≤ tx.length + 25 := by
  have h1 := (apply_len (s := tx) (k := 5) (q := 0) (Nat.zero_le _) h.2.1 h.2.2).1
  have h2 := h.1
  omega
theorem EdsOk.enc {tx : List UInt8} {es : List Ed} (h : EdsOk tx es) (hl : tx.length ≤ 1000000) : (encEs es).length ≤ tx.length + 185 := by
  have h1 := encEs_len (s := tx) (k := 5) (es := es) hl h.2.1 h.2.2 (by decide) (by have := h.1; omega)
  have h2 := h.1
  omega
theorem cut_len {l : List UInt8} {a b : Nat} (h1 : a ≤ b) (h2 : b ≤ l.length) : ((l.take ((b : Nat) : Int).toNat).drop ((a : Nat) : Int).toNat).length = b - a := by
  rw [List.length_drop, List.length_take]; omega
/-- one more edit -/
theorem sm_step {tx : List UInt8} {es : List Ed} {q f t : Nat} {x : List UInt8} (h : SoundTo tx.length es q) (h1 : q ≤ f) (h2 : f ≤ t) (h3 : t ≤ tx.length) : SoundTo tx.length (es ++ [⟨f, t, x⟩]) (t : Nat) :=
  h.snoc (e := ⟨f, t, x⟩) (by omega) (by show (q : Int) ≤ f; omega) (by show (f : Int) ≤ t; omega) (by show (t : Int) ≤ _; omega)
theorem tmod_nn {a b : Int} (ha : 0 ≤ a) (hb : 0 < b) : ∃ k : Nat, a.tmod b = k ∧ (k : Int) < b := by
  refine ⟨(a.tmod b).toNat, ?_, ?_⟩
  · have := Int.tmod_nonneg b ha; omega
  · have := Int.tmod_lt_of_pos a hb; have := Int.tmod_nonneg b ha; omega
end Go.GL

namespace Go.GL
set_option linter.unusedVariables false
theorem ArrAt.cutGen {w : World} {K : List Nat} {oa : Option Addr} {cap size n : Nat} {xs : List Value} (k h : Nat) (hk : k ≤ h) (hh : h ≤ n) (hc : n ≤ cap) (hx : xs.length = n * size) (ha : ArrAt w K oa xs) : ArrAt w K (cutA oa k cap size) ((xs.take (h * size)).drop (k * size)) := by
  rcases ha with rfl | ⟨b, off, rfl, h1, h2, h3⟩
  · exact .inl (by simp)
  · by_cases h0 : (xs.take (h * size)).drop (k * size) = []
    · exact .inl h0
    · have hlt : k ≠ cap := by
        intro e
        apply h0
        have : h = k := by omega
        subst this
        rw [List.drop_of_length_le (by rw [List.length_take]; omega)]
      refine .inr ⟨b, off + k * size, ?_, h1, h2, fun j v hj => ?_⟩
      · unfold cutA; rw [if_neg (fun e => hlt e.symm)]; show some (Addr.add _ _) = _; rw [addr_add]
      · rw [Nat.add_assoc]
        refine h3 _ v ?_
        rw [List.getElem?_drop, List.getElem?_take] at hj
        split at hj
        · exact hj
        · cases hj
theorem St.cutG {w : World} {M : List HP} {F : List Fact} {oa : Option Addr} {cap size n : Nat} {xs : List Value} (k h : Nat) (hk : k ≤ h) (hh : h ≤ n) (hc : n ≤ cap) (hx : xs.length = n * size) (hF : ArrF oa xs ∈ F) (hw : St w M F) : St w M (ArrF (cutA oa k cap size) ((xs.take (h * size)).drop (k * size)) :: F) :=
  hw.derive (ψ := ArrF (cutA oa k cap size) ((xs.take (h * size)).drop (k * size))) fun K hf => ArrAt.cutGen k h hk hh hc hx (hf _ hF)
theorem ints_drop (l : List Int) (k : Nat) : ints (l.drop k) = (ints l).drop k := by simp [ints, List.map_drop]
theorem ints_take (l : List Int) (k : Nat) : ints (l.take k) = (ints l).take k := by simp [ints, List.map_take]
theorem St.cutI {w : World} {M : List HP} {F : List Fact} {oa : Option Addr} {cap : Nat} {l : List Int} (k : Nat) (hk : k ≤ l.length) (hc : l.length ≤ cap) (hF : ArrF oa (ints l) ∈ F) (hw : St w M F) : St w M (ArrF (cutA oa k cap 1) (ints (l.drop k)) :: F) := by
  have h1 := hw.cutG (size := 1) (n := l.length) k l.length hk (Nat.le_refl _) hc (by simp [ints]) hF
  rw [List.take_of_length_le (by simp [ints]), Nat.mul_one, ← ints_drop] at h1
  exact h1
section
variable {P : Program} {r : Option Nat} {N : Nat} {ops : Array Oper} {rest : List Oper} {Q : Exit → Act → World → Prop} {E : Env} {ds : List Deferred} {M : List HP} {F : List Fact}
variable {d : Nat} {ty : TypeId} {pos : String} {aft : Array Edge} {gd : Option (Nat × Bool)}
theorem RL.sliceFromI {T e : TypeId} {x o : Operand} {oa : Option Addr} {cap k : Nat} {v : Int} {l : List Int} (hg : wantedG ops E gd = some true) (ht : tySlice P T e = true) (hz : tySize P e 1 = true) (hx : evalO E x = some (.slice oa l.length cap))
    (ho : evalO E o = some (I v)) (hv : v = (k : Int)) (hk : k ≤ l.length) (hc : l.length ≤ cap) (hF : ArrF oa (ints l) ∈ F) (hN : Nat.ble (d + 1) N = true) (kk : RL P r N ops rest Q ((d, .slice (cutA oa k cap 1) (l.drop k).length (cap - k)) :: E) ds M (ArrF (cutA oa k cap 1) (ints (l.drop k)) :: F)) : RL P r N ops (⟨some d, .slice T x (some o) none none, ty, pos, aft, gd⟩ :: rest) Q E ds M F := by
  subst hv
  refine RL.weak (fun w hw => hw.cutI k hk hc hF) ?_
  refine RL.sliceLH (l := k) (h := l.length) hg ht hz hx (.inr ⟨o, rfl, ho⟩) (.inl ⟨rfl, rfl⟩) hk hc hN ?_
  rw [← List.length_drop]; exact kk
end
theorem drop_mem {l : List Int} {k : Nat} {x : Int} (h : x ∈ l.drop k) : x ∈ l := List.mem_of_mem_drop h
end Go.GL
