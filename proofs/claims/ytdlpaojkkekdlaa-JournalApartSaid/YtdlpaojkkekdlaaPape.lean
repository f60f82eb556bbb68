/- Lemmas and walks for the proof of ApartJ: texts one behind the other. No condition. -/
import Derived.Test.YtdlpaojkkekdlaaPapd
namespace Go.Proofs.Ytdlpaojkkekdlaa
open Go.GL
set_option linter.unusedVariables false
theorem ya_tl22 : tySlice Try.prog 22 3 = true := by kernel_rfl
theorem ya_ts3 : tyScalar Try.prog 3 = true := by kernel_rfl
theorem ya_tz3 : tySize Try.prog 3 1 = true := by kernel_rfl
theorem isnan_spec {a : Int} {M : List HP} {F : List Fact} : Ctr Try.prog 124 [I a] M F Unit (fun _ => .bool false) (fun _ => M) (fun _ => F) := by
  refine Ctr.body Try.func124 rfl rfl ?_
  refine TR.seq ?_
  refine TR.region ?_
  refine RL.assign rfl rfl rfl ?_
  refine RL.nil ?_
  refine NX.seq ?_
  refine TR.seq ?_
  refine TR.region ?_
  refine RL.move rfl rfl rfl ?_
  refine RL.move rfl rfl rfl ?_
  refine RL.bin rfl rfl rfl BinV.neq rfl ?_
  refine RL.assign rfl rfl rfl ?_
  refine RL.nil ?_
  refine NX.seq ?_
  refine TR.ret ?_
  exact NX.ret1 () rfl rfl (congrArg Value.bool (decide_eq_false (by simp))) (fun w hw => hw)

theorem less_spec {a b : Int} {M : List HP} {F : List Fact} : Ctr Try.prog 114 [I a, I b] M F Unit (fun _ => .bool (decide (a < b))) (fun _ => M) (fun _ => F) := by
  refine Ctr.body Try.func114 rfl rfl ?_
  refine TR.seq ?_
  refine TR.region ?_
  refine RL.assign rfl rfl rfl ?_
  refine RL.nil ?_
  refine NX.seq ?_
  refine TR.seq ?_
  refine TR.region ?_
  refine RL.move rfl rfl rfl ?_
  refine RL.call rfl rfl Try.call124 rfl (isnan_spec) (fun _ => ?_)
  refine RL.move rfl rfl rfl ?_
  refine RL.skip rfl rfl rfl ?_
  refine RL.skip rfl rfl rfl ?_
  refine RL.skip rfl rfl rfl ?_
  refine RL.pickF rfl rfl rfl rfl ?_
  refine RL.move rfl rfl rfl ?_
  refine RL.move rfl rfl rfl ?_
  refine RL.move rfl rfl rfl ?_
  refine RL.bin rfl rfl rfl BinV.lss rfl ?_
  refine RL.pickF rfl rfl rfl rfl ?_
  refine RL.assign rfl rfl rfl ?_
  refine RL.nil ?_
  refine NX.seq ?_
  refine TR.ret ?_
  exact NX.ret1 () rfl rfl rfl (fun w hw => hw)

structure SoX where
  l : List Int
  j : Nat

theorem isort_spec {l0 : List Int} {oa : Option Addr} {c : Nat} {M : List HP} {F : List Fact} (hl : l0.length ≤ 4611686018427387904) : Ctr Try.prog 108 [.slice oa l0.length c, I 0, I (l0.length : Nat)] (OwnSl 3 1 oa l0.length c (ints l0) :: M) F {l : List Int // l.Perm l0 ∧ Ord l l0.length} (fun _ => .tuple #[]) (fun z => OwnSl 3 1 oa l0.length c (ints z.1) :: M) (fun _ => F) := by
  refine Ctr.body Try.func108 rfl rfl ?_
  refine TR.seq ?_
  refine TR.region ?_
  refine RL.move rfl rfl rfl ?_
  refine RL.bin rfl rfl rfl (BinV.add _ rfl (by omega) (by omega)) rfl ?_
  refine RL.assign rfl rfl rfl ?_
  refine RL.nil ?_
  refine NX.seq ?_
  refine TR.block ?_
  refine TR.loopP (ι := SoX) (fun x => x.l.length = l0.length ∧ x.l.Perm l0 ∧ 1 ≤ x.j ∧ Ord x.l x.j) (fun x => [(0, .slice oa l0.length c), (1, I 0), (2, I (l0.length : Nat)), (6, I x.j)]) (fun x => OwnSl 3 1 oa l0.length c (ints x.l) :: M) (fun _ => F) (fun x => l0.length + 1 - x.j) ⟨l0, 1⟩ ⟨rfl, List.Perm.refl _, Nat.le_refl _, fun p q h1 h2 => absurd (show q < 1 from h2) (by omega)⟩ ⟨rfl, rfl, rfl, rfl, trivial⟩ (fun w hw => hw) (fun x hx => ?_)
  refine TR.seq ?_
  refine TR.seq ?_
  refine TR.region ?_
  refine RL.move rfl rfl rfl ?_
  refine RL.move rfl rfl rfl ?_
  refine RL.bin rfl rfl rfl BinV.lss rfl ?_
  refine RL.nil ?_
  refine NX.seq ?_
  refine TR.cond rfl (fun h1 => ?_) (fun h1 => ?_)
  · skip
    have hi : x.j < l0.length := by have := of_decide_eq_true h1; omega
    refine TR.openP (fun w hw => own_at (i := 0) (M := _ :: M) rfl (ints_ne (by omega)) hw) (fun g hga => ?_)
    refine TR.skip ?_
    refine NX.seq ?_
    refine TR.seq ?_
    refine TR.block ?_
    refine TR.seq ?_
    refine TR.region ?_
    refine RL.move rfl rfl rfl ?_
    refine RL.assign rfl rfl rfl ?_
    refine RL.nil ?_
    refine NX.seq ?_
    refine TR.block ?_
    refine TR.loopP (ι := SoX) (fun y => y.l.length = l0.length ∧ y.l.Perm l0 ∧ y.j ≤ x.j ∧ OrdBut y.l x.j y.j) (fun y => [(0, .slice oa l0.length c), (1, I 0), (2, I (l0.length : Nat)), (6, I x.j), (7, I y.j)]) (fun y => OwnSl 3 1 oa l0.length c (ints y.l) :: M) (fun _ => F) (fun y => y.j) ⟨x.l, x.j⟩ ⟨hx.1, hx.2.1, Nat.le_refl _, OrdBut.start hx.2.2.2⟩ ⟨rfl, rfl, rfl, rfl, rfl, trivial⟩ (fun w hw => hw) (fun y hy => ?_)
    refine TR.seq ?_
    refine TR.seq ?_
    refine TR.sub (E' := [(0, _), (1, _), (2, _), (6, _), (7, _)]) ⟨rfl, rfl, rfl, rfl, rfl, trivial⟩ ?_
    refine TR.draw mixed ?_
    cases h2 : decide ((0 : Int) < (y.j : Int))
    · skip
      have hs : y.j = 0 ∨ ¬ iAt y.l y.j < iAt y.l (y.j - 1) := Or.inl (by have := of_decide_eq_false h2; omega)
      apply AR.more [(0, _), (1, _), (2, _), (3, .bool false), (4, undef), (5, undef), (6, undef), (7, undef), (8, undef), (9, undef), (10, undef), (11, undef), (12, undef), (13, undef), (14, .bool false)]
      refine AR.last [0, 1, 2, 3, 4, 5, 6, 7, 8, 9, 10, 11, 12, 13, 14] [0, 1, 2, 3, 4, 5, 6, 7, 8, 9, 10, 11, 12, 13, 14] ⟨QOne.yes rfl rfl rfl (PV.move rfl), QOne.yes rfl rfl rfl (PV.move rfl), QOne.yes rfl rfl rfl (PV.bin rfl rfl BinV.gtr), QOne.yes rfl rfl rfl (PV.cast (congrArg Value.bool h2) (PV.move rfl)), QOne.no rfl rfl rfl, QOne.no rfl rfl rfl, QOne.no rfl rfl rfl, QOne.no rfl rfl rfl, QOne.no rfl rfl rfl, QOne.no rfl rfl rfl, QOne.no rfl rfl rfl, QOne.no rfl rfl rfl, QOne.no rfl rfl rfl, QOne.no rfl rfl rfl, QOne.yes rfl rfl rfl (PV.pickF rfl rfl), trivial⟩ rfl rfl rfl ?_
      refine NX.sub (E' := [(0, _), (1, _), (2, _), (6, _), (7, _), (16, _), (17, _), (18, _), (19, _), (20, _), (21, _), (22, _), (23, _), (24, _), (25, _), (26, _), (27, _), (28, _), (29, _), (30, _)]) ⟨rfl, rfl, rfl, rfl, rfl, rfl, rfl, rfl, rfl, rfl, rfl, rfl, rfl, rfl, rfl, rfl, rfl, rfl, rfl, rfl, trivial⟩ ?_
      refine NX.seq ?_
      refine TR.condF rfl ?_
      refine TR.exit ?_
      refine NX.exitThen ?_
      refine NX.exitThen ?_
      refine NX.exitHere ?_
      refine NX.off ?_
      refine NX.seq ?_
      refine TR.region ?_
      refine RL.move rfl rfl rfl ?_
      refine RL.bin rfl rfl rfl (BinV.add _ rfl (by omega) (by omega)) rfl ?_
      refine RL.assign rfl rfl rfl ?_
      refine RL.nil ?_
      refine NX.roundP ⟨y.l, x.j + 1⟩ ⟨hy.1, hy.2.1, by show 1 ≤ x.j + 1; omega, hy.2.2.2.stop hy.2.2.1 hs⟩ (by show l0.length + 1 - (x.j + 1) < l0.length + 1 - x.j; omega) ⟨rfl, rfl, rfl, rfl, trivial⟩ (fun w hw => hw)
    · skip
      have hj0 : 0 < y.j := by have := of_decide_eq_true h2; omega
      apply AR.more [(0, _), (1, _), (2, _), (3, .bool true), (4, _), (5, _), (6, _), (7, _), (8, _), (9, _), (10, _), (11, _), (12, _)]
      refine AR.eff [0, 1, 2, 3, 4, 5, 6, 7, 8, 9, 10, 11, 12] 13 [0, 1, 2, 3, 4, 5, 6, 7, 8, 9, 10, 11, 12, 13, 14] ⟨QOne.yes rfl rfl rfl (PV.move rfl), QOne.yes rfl rfl rfl (PV.move rfl), QOne.yes rfl rfl rfl (PV.bin rfl rfl BinV.gtr), QOne.yes rfl rfl rfl (PV.cast (congrArg Value.bool h2) (PV.move rfl)), QOne.yes rfl rfl rfl (PV.move rfl), QOne.yes rfl rfl rfl (PV.move rfl), QOne.yes rfl rfl rfl (PV.indexAddr ya_tl22 ya_tz3 (congrArg (fun a => some (Value.slice a _ _)) hga) rfl (by omega) (by omega)), QOne.yes rfl rfl rfl (PV.loadS rfl (own_one (i := 0) rfl hga ya_ts3 (ints_iAt (y.j) (by omega) (by omega)))), QOne.yes rfl rfl rfl (PV.move rfl), QOne.yes rfl rfl rfl (PV.move rfl), QOne.yes rfl rfl rfl (PV.bin rfl rfl (BinV.sub _ rfl (by omega) (by omega))), QOne.yes rfl rfl rfl (PV.indexAddr ya_tl22 ya_tz3 (congrArg (fun a => some (Value.slice a _ _)) hga) rfl (by omega) (by omega)), QOne.yes rfl rfl rfl (PV.loadS rfl (own_one (i := 0) rfl hga ya_ts3 (ints_iAt (y.j - 1) (by omega) (by omega)))), trivial⟩ rfl rfl rfl rfl rfl rfl rfl (EV.call rfl Try.call114 (less_spec)) (fun _ => ?_)
      refine AR.done [7, 12, 3, 2, 11, 6, 4, 5, 8, 10, 0, 1, 9] rfl ?_
      apply AR.more [(14, _)]
      refine AR.last [14] [0, 1, 2, 3, 4, 5, 6, 7, 8, 9, 10, 11, 12, 13, 14] ⟨QOne.yes rfl rfl rfl (PV.pickT rfl rfl), trivial⟩ rfl rfl rfl ?_
      refine NX.sub (E' := [(0, _), (1, _), (2, _), (6, _), (7, _), (16, _), (17, _), (18, _), (19, _), (20, _), (21, _), (22, _), (23, _), (24, _), (25, _), (26, _), (27, _), (28, _), (29, _), (30, _)]) ⟨rfl, rfl, rfl, rfl, rfl, rfl, rfl, rfl, rfl, rfl, rfl, rfl, rfl, rfl, rfl, rfl, rfl, rfl, rfl, rfl, trivial⟩ ?_
      refine NX.seq ?_
      refine TR.cond rfl (fun h3 => ?_) (fun h3 => ?_)
      · skip
        have hlt : iAt y.l y.j < iAt y.l (y.j - 1) := of_decide_eq_true h3
        refine TR.skip ?_
        refine NX.seq ?_
        refine TR.seq ?_
        refine TR.block ?_
        refine TR.sub (E' := [(0, _), (1, _), (2, _), (6, _), (7, _), (16, _), (17, _), (18, _), (19, _), (20, _), (21, _), (22, _), (23, _), (24, _), (25, _), (26, _), (27, _), (28, _), (29, _), (30, _)]) ⟨rfl, rfl, rfl, rfl, rfl, rfl, rfl, rfl, rfl, rfl, rfl, rfl, rfl, rfl, rfl, rfl, rfl, rfl, rfl, rfl, trivial⟩ ?_
        refine TR.draw mixed ?_
        apply AR.more [(0, _), (1, _), (2, _), (3, _), (4, _), (5, _), (6, _), (7, _), (8, _), (9, _), (10, _), (11, _), (12, _), (13, _), (14, _)]
        refine AR.eff [0, 1, 2, 3, 4, 5, 6, 7, 8, 9, 10, 11, 12, 13, 14] 15 [0, 1, 2, 3, 4, 5, 6, 7, 8, 9, 10, 11, 12, 13, 14, 15, 16, 17] ⟨QOne.yes rfl rfl rfl (PV.move rfl), QOne.yes rfl rfl rfl (PV.move rfl), QOne.yes rfl rfl rfl (PV.move rfl), QOne.yes rfl rfl rfl (PV.move rfl), QOne.yes rfl rfl rfl (PV.bin rfl rfl (BinV.sub _ rfl (by omega) (by omega))), QOne.yes rfl rfl rfl (PV.move rfl), QOne.yes rfl rfl rfl (PV.move rfl), QOne.yes rfl rfl rfl (PV.bin rfl rfl (BinV.sub _ rfl (by omega) (by omega))), QOne.yes rfl rfl rfl (PV.indexAddr ya_tl22 ya_tz3 (congrArg (fun a => some (Value.slice a _ _)) hga) rfl (by omega) (by omega)), QOne.yes rfl rfl rfl (PV.loadS rfl (own_one (i := 0) rfl hga ya_ts3 (ints_iAt (y.j - 1) (by omega) (by omega)))), QOne.yes rfl rfl rfl (PV.move rfl), QOne.yes rfl rfl rfl (PV.move rfl), QOne.yes rfl rfl rfl (PV.indexAddr ya_tl22 ya_tz3 (congrArg (fun a => some (Value.slice a _ _)) hga) rfl (by omega) (by omega)), QOne.yes rfl rfl rfl (PV.loadS rfl (own_one (i := 0) rfl hga ya_ts3 (ints_iAt (y.j) (by omega) (by omega)))), QOne.yes rfl rfl rfl (PV.indexAddr ya_tl22 ya_tz3 (congrArg (fun a => some (Value.slice a _ _)) hga) rfl (by omega) (by omega)), trivial⟩ rfl rfl rfl rfl rfl rfl rfl (EV.storeO (vs := [I (iAt y.l (y.j - 1))]) 0 rfl rfl rfl hga ya_tz3 rfl (by simp; omega) rfl) (fun _ => ?_)
        refine AR.done [14, 9, 0, 1, 5, 6, 7, 8, 13, 12, 10, 11] rfl ?_
        apply AR.more [(16, _)]
        refine AR.eff [2, 3, 4, 16] 17 [0, 1, 2, 3, 4, 5, 6, 7, 8, 9, 10, 11, 12, 13, 14, 15, 16, 17] ⟨QOne.yes rfl rfl rfl (PV.move rfl), QOne.yes rfl rfl rfl (PV.move rfl), QOne.yes rfl rfl rfl (PV.bin rfl rfl (BinV.sub _ rfl (by omega) (by omega))), QOne.yes rfl rfl rfl (PV.indexAddr ya_tl22 ya_tz3 (congrArg (fun a => some (Value.slice a _ _)) hga) rfl (by omega) (by omega)), trivial⟩ rfl rfl rfl rfl rfl rfl rfl (EV.storeO (vs := [I (iAt y.l y.j)]) 0 rfl rfl rfl hga ya_tz3 rfl (by simp; omega) rfl) (fun _ => ?_)
        refine AR.done [16, 2, 3, 4] rfl ?_
        refine AR.last [] [0, 1, 2, 3, 4, 5, 6, 7, 8, 9, 10, 11, 12, 13, 14, 15, 16, 17] trivial rfl rfl rfl ?_
        refine NX.sub (E' := [(0, _), (1, _), (2, _), (6, _), (7, _), (16, _), (17, _), (18, _), (19, _), (20, _), (21, _), (22, _), (23, _), (24, _), (25, _), (26, _), (27, _), (28, _), (29, _), (30, _), (33, _), (34, _), (35, _), (36, _), (37, _), (38, _), (39, _), (40, _), (41, _), (42, _), (43, _), (44, _), (45, _), (46, _), (47, _), (48, _)]) ⟨rfl, rfl, rfl, rfl, rfl, rfl, rfl, rfl, rfl, rfl, rfl, rfl, rfl, rfl, rfl, rfl, rfl, rfl, rfl, rfl, rfl, rfl, rfl, rfl, rfl, rfl, rfl, rfl, rfl, rfl, rfl, rfl, rfl, rfl, rfl, rfl, trivial⟩ ?_
        refine NX.off ?_
        refine NX.seq ?_
        refine TR.region ?_
        refine RL.move rfl rfl rfl ?_
        refine RL.bin rfl rfl rfl (BinV.sub _ rfl (by omega) (by omega)) rfl ?_
        refine RL.assign rfl rfl rfl ?_
        refine RL.nil ?_
        refine NX.roundP ⟨swp y.l y.j, y.j - 1⟩ ⟨(swp_len _ _).trans hy.1, (swp_perm (by omega) hj0).trans hy.2.1, by show y.j - 1 ≤ _; omega, hy.2.2.2.step (by omega) hy.2.2.1 hj0 hlt⟩ (by show y.j - 1 < y.j; omega) ⟨rfl, rfl, rfl, rfl, ?_, trivial⟩ (fun w hw => ?_)
        · show some (I ((y.j : Int) - 1)) = some (I ((y.j - 1 : Nat) : Int)); congr 2; omega
        · have h9 := hw
          have e1 := ints_set (l := y.l) (v := (y.j : Int)) (x := iAt y.l (y.j - 1)) y.j (by omega) (by omega)
          have e2 := ints_set (l := y.l.set y.j (iAt y.l (y.j - 1))) (v := (y.j : Int) - 1) (x := iAt y.l y.j) (y.j - 1) (by omega) (by rw [List.length_set]; omega)
          show St w (OwnSl 3 1 oa l0.length c (ints (swp y.l y.j)) :: M) F
          unfold swp
          rw [← e2, ← e1]
          exact hw
      · skip
        have hs : y.j = 0 ∨ ¬ iAt y.l y.j < iAt y.l (y.j - 1) := Or.inr (of_decide_eq_false h3)
        refine TR.exit ?_
        refine NX.exitThen ?_
        refine NX.exitThen ?_
        refine NX.exitHere ?_
        refine NX.off ?_
        refine NX.seq ?_
        refine TR.region ?_
        refine RL.move rfl rfl rfl ?_
        refine RL.bin rfl rfl rfl (BinV.add _ rfl (by omega) (by omega)) rfl ?_
        refine RL.assign rfl rfl rfl ?_
        refine RL.nil ?_
        refine NX.roundP ⟨y.l, x.j + 1⟩ ⟨hy.1, hy.2.1, by show 1 ≤ x.j + 1; omega, hy.2.2.2.stop hy.2.2.1 hs⟩ (by show l0.length + 1 - (x.j + 1) < l0.length + 1 - x.j; omega) ⟨rfl, rfl, rfl, rfl, trivial⟩ (fun w hw => hw)
  · skip
    have hi : ¬ x.j < l0.length := by have := of_decide_eq_false h1; omega
    refine TR.exit ?_
    refine NX.exitThen ?_
    refine NX.exitThen ?_
    refine NX.exitHere ?_
    refine NX.end0 (⟨x.l, hx.2.1, ?_⟩ : {l : List Int // l.Perm l0 ∧ Ord l l0.length}) rfl rfl (fun w hw => hw)
    exact fun p q h1 h2 => hx.2.2.2 p q h1 (by omega)

end Go.Proofs.Ytdlpaojkkekdlaa

namespace Go.Proofs.Ytdlpaojkkekdlaa
open Go.GL
set_option linter.unusedVariables false
theorem pdq_spec {l0 : List Int} {oa : Option Addr} {c : Nat} {n : Int} {M : List HP} {F : List Fact} (h12 : l0.length ≤ 12) (hl : l0.length ≤ 4611686018427387904) : Ctr Try.prog 106 [.slice oa l0.length c, I 0, I (l0.length : Nat), I n] (OwnSl 3 1 oa l0.length c (ints l0) :: M) F {l : List Int // l.Perm l0 ∧ Ord l l0.length} (fun _ => .tuple #[]) (fun z => OwnSl 3 1 oa l0.length c (ints z.1) :: M) (fun _ => F) := by
  refine Ctr.body Try.func106 rfl rfl ?_
  refine TR.seq ?_
  refine TR.region ?_
  refine RL.assign rfl rfl rfl ?_
  refine RL.nil ?_
  refine NX.seq ?_
  refine TR.seq ?_
  refine TR.region ?_
  refine RL.assign rfl rfl rfl ?_
  refine RL.nil ?_
  refine NX.seq ?_
  refine TR.block ?_
  refine TR.loopP (ι := Nat) (fun k => k ≤ 0) (fun _ => [(0, .slice oa l0.length c), (1, I 0), (2, I (l0.length : Nat))]) (fun _ => OwnSl 3 1 oa l0.length c (ints l0) :: M) (fun _ => F) (fun k => k) 0 (Nat.le_refl _) ⟨rfl, rfl, rfl, trivial⟩ (fun w hw => hw) (fun k hk => ?_)
  refine TR.block ?_
  refine TR.seq ?_
  refine TR.region ?_
  refine RL.move rfl rfl rfl ?_
  refine RL.move rfl rfl rfl ?_
  refine RL.bin rfl rfl rfl (BinV.sub _ rfl (by omega) (by omega)) rfl ?_
  refine RL.assign rfl rfl rfl ?_
  refine RL.nil ?_
  refine NX.seq ?_
  refine TR.seq ?_
  refine TR.seq ?_
  refine TR.region ?_
  refine RL.move rfl rfl rfl ?_
  refine RL.bin rfl rfl rfl (BinV.to (d := true) BinV.leq (decide_eq_true (by omega))) rfl ?_
  refine RL.nil ?_
  refine NX.seq ?_
  refine TR.condT rfl ?_
  refine TR.seq ?_
  refine TR.region ?_
  refine RL.move rfl rfl rfl ?_
  refine RL.move rfl rfl rfl ?_
  refine RL.move rfl rfl rfl ?_
  refine RL.call rfl rfl Try.call108 rfl (isort_spec hl) (fun z => ?_)
  refine RL.nil ?_
  refine NX.seq ?_
  refine TR.ret ?_
  refine NX.retThen ?_
  refine NX.retBlock ?_
  refine NX.retThen ?_
  refine NX.retBlock ?_
  exact NX.ret0 z rfl rfl (fun w hw => hw)

end Go.Proofs.Ytdlpaojkkekdlaa

namespace Go.GL
set_option linter.unusedVariables false
/-- what an iterator says that holds L0 and yields in some order: 'step': what may come next; 'fin': what has come at the end -/
def IterG (P : Program) (gf : FuncId) (cap : List Value) {α : Type} (enc : α → List Value → Prop) (step : List α → α → Prop) (fin : List α → Prop) (L0 : List HP) (F : List Fact) : Prop :=
  ∀ (l : Nat) (J : List α → List HP),
    (∀ pre x args, step pre x → enc x args → ∀ Mi G, (∀ φ, φ ∈ F → φ ∈ G) → YSpec P l args (J pre ++ Mi) G (J (pre ++ [x]) ++ Mi)) →
    ∀ Mi G, (∀ φ, φ ∈ F → φ ∈ G) → Ctr P gf (.func (.yield l) #[] #[] :: cap) (J [] ++ (L0 ++ Mi)) G {xs : List α // fin xs} (fun _ => .tuple #[]) (fun xs => J xs.1 ++ (L0 ++ Mi)) (fun _ => G)
section
variable {P : Program} {r : Option Nat} {N : Nat} {ops : Array Oper} {rest : List Oper} {Q : Exit → Act → World → Prop} {E : Env} {ds : List Deferred} {M : List HP} {F : List Fact}
/-- A LOOP OVER A FUNCTION whose body never leaves it. -/
theorem TR.rangeFuncG {α : Type} {g : Operand} {ps : List Nat} {assign body : Code} {gf : FuncId} {cap : List Value} {enc : α → List Value → Prop} {step : List α → α → Prop} {fin : List α → Prop} {L0 : List HP} {κ : Type}
    (hg : evalO E g = some (.func (.func gf) #[] cap.toArray)) (hcall : ∀ args w, (callFunc gf args).run P w = .ok (.enter gf args) w) (hps : ∀ p, p ∈ ps → Nat.ble (p + 1) N = true) (hlen : ∀ x args, enc x args → args.length = ps.length)
    (hit : IterG P gf cap enc step fin L0 F) (J : List α → List HP) (Mr : List HP) (hJ : ∀ w, St w M F → St w (J [] ++ (L0 ++ Mr)) F)
    (E1 : List α → α → List Value → κ → Env) (M1 : List α → α → List Value → κ → List HP)
    (hassign : ∀ l pre x args, step pre x → enc x args → ∀ Mi G, (∀ φ, φ ∈ F → φ ∈ G) →
      TR P (some l) N assign (Exit.then (fun a w => ∃ i, Sat N (E1 pre x args i) [] a ∧ St w (M1 pre x args i ++ Mi) G) (fun _ _ _ => False)) (envAt ps args E) [] (J pre ++ Mi) G)
    (hbody : ∀ l pre x args i, step pre x → enc x args → ∀ Mi G, (∀ φ, φ ∈ F → φ ∈ G) →
      TR P (some l) N body (RoundQ (J (pre ++ [x]) ++ Mi) G) (E1 pre x args i) [] (M1 pre x args i ++ Mi) G)
    (k : ∀ xs, fin xs → ∀ D, NX N .normal Q E ({ target := .collected D, args := #[] } :: ds) (Pts D (.deferred (some [])) :: (J xs ++ (L0 ++ Mr))) F) :
    TR P none N (.rangeFunc g ps.toArray assign body) Q E ds M F := by
  intro a w ha hw
  refine wpIn_rangeFunc fun fn _ => ?_
  obtain ⟨rec, hrec⟩ : ∃ rec : LoopState → Option Code → Loop, rec = fun st pe => { state := st, pending := pe, fn, tmps := a.tmps, params := ps.toArray, assign, body, defers := w.heap.size } := ⟨_, rfl⟩
  obtain ⟨W1, hW1⟩ : ∃ W1, W1 = (w.alloc (.deferred (some []))).alloc (.loop (rec .ready none)) := ⟨_, rfl⟩
  have h1 : St W1 (Pts (w.heap.size + 1) (.loop (rec .ready none)) :: Pts w.heap.size (.deferred (some [])) :: (J [] ++ (L0 ++ Mr))) F := by
    have := ((hJ w hw).alloc (.deferred (some []))).alloc (.loop (rec .ready none))
    rw [World.size_alloc] at this
    rw [hW1]
    exact this
  refine ⟨w.heap.size + 1, [{ target := .collected w.heap.size, args := #[] }], W1, { target := .fn (.func gf) cap.toArray, args := #[.func (.yield (w.heap.size + 1)) #[] #[]] }, W1, gf,
    (.func (.yield (w.heap.size + 1)) #[] #[] :: cap).toArray, W1, ?_, ?_, fun _ _ => trivial, ?_, fun h => by simp at h, ?_⟩
  · rw [hW1, hrec]; exact run_enterLoop_outer _ _ _ _ _
  · have e0 := ha.eval hg
    have e1 : a.eval (.const (.func (.yield (w.heap.size + 1)) #[] #[])) = .func (.yield (w.heap.size + 1)) #[] #[] := rfl
    simp only [resolve, e0, Deferred.ofValue]
    simp [e1]
  · simp [invoke, hcall]
  · have hJ' := hit (w.heap.size + 1) (fun pre => Pts (w.heap.size + 1) (.loop (rec .ready none)) :: J pre) ?_ (Pts w.heap.size (.deferred (some [])) :: Mr) F (fun _ h => h)
    · have hp : ∀ (r : HP) (L : List HP), (r :: Pts w.heap.size (.deferred (some [])) :: (L ++ (L0 ++ Mr))).Perm ((r :: L) ++ (L0 ++ (Pts w.heap.size (.deferred (some [])) :: Mr))) := fun r L => by
        refine List.Perm.cons r ((List.perm_middle.symm).trans ?_)
        exact List.Perm.append_left L List.perm_middle.symm
      obtain ⟨hF, hc⟩ := hJ' _ (h1.perm (hp _ _))
      refine ⟨hF, fun cs hr => ?_⟩
      obtain ⟨e, w', fr, ⟨xs, he, hst⟩, rest'⟩ := hc cs hr
      subst he
      refine ⟨_, w', fr, ?_, rest'⟩
      have hst' := hst.perm (hp _ _).symm
      have hl := hst'.heap (i := 0) rfl
      refine ⟨none, _, by have := run_endLoop (P := P) hl (by rw [hrec]; simp); rw [hrec] at this; exact this, ?_⟩
      exact k xs.1 xs.2 w.heap.size _ _ (ha.ends _) ((hst'.putObj (i := 0) rfl).tail) |> fun h => by rw [ha.defers]; exact h
    · intro pre x args hx he Mi G hG W hW
      have hW : St W (Pts (w.heap.size + 1) (.loop (rec .ready none)) :: (J pre ++ Mi)) G := hW
      have hl := hW.heap (i := 0) rfl
      have hy := run_yield (P := P) (args := args.toArray) hl (by rw [hrec]; simp [hlen x args he])
      rw [hrec] at hy
      refine ⟨fn, _, assign, body, hy, roundIn_of_wpIn (F := Wd none) trivial ?_⟩
      have hS : Sat N (envAt ps args E) [] ⟨(ps.zip args).foldl (fun t (p, v) => t.setIfInBounds p v) a.tmps, []⟩ := Sat.params ps args (ha.ends []) hps
      have hz : ((ps.toArray.zip args.toArray).foldl (fun tmps (t, a) => tmps.setIfInBounds t a) a.tmps) = (ps.zip args).foldl (fun t (p, v) => t.setIfInBounds p v) a.tmps := by simp
      have hper : ∀ (r : HP) (L L' : List HP), (r :: (L ++ L')).Perm (L ++ (r :: L')) := fun r L L' => List.perm_middle.symm
      refine wpIn_mono (hassign (w.heap.size + 1) pre x args hx he (Pts (w.heap.size + 1) (.loop (rec .ready none)) :: Mi) G hG _ W (by simp only; rw [hz]; exact hS) (hW.perm (hper _ _ _))) ?_
      intro e a1 w1 hq
      cases e with
      | normal =>
        obtain ⟨i, hs1, hw1⟩ := hq
        have hw1' := hw1.perm (hper _ _ _).symm
        have hl1 := hw1'.heap (i := 0) rfl
        refine ⟨_, run_beginRound hl1 (by rw [hrec]), ?_⟩
        have hw2 := (hw1'.putObj (o' := .loop { rec .ready none with state := .busy }) (i := 0) rfl)
        refine wpIn_mono (hbody (w.heap.size + 1) pre x args i hx he (Pts (w.heap.size + 1) (.loop { rec .ready none with state := .busy }) :: Mi) G hG a1 _ hs1 (hw2.perm (hper _ _ _))) ?_
        intro e a3 w3 hq3
        cases e with
        | normal =>
          have hw3 : St w3 (J (pre ++ [x]) ++ (Pts (w.heap.size + 1) (.loop { rec .ready none with state := .busy }) :: Mi)) G := hq3
          have hw3' := hw3.perm (hper _ _ _).symm
          have hl3 := hw3'.heap (i := 0) rfl
          refine ⟨_, _, run_endRound none hl3, (), rfl, ?_⟩
          have := hw3'.putObj (o' := .loop { rec .ready none with state := .ready }) (i := 0) rfl
          rw [hrec] at this ⊢
          exact this
        | _ => exact hq3.elim
      | _ => exact hq.elim
end
end Go.GL

namespace Go.GL
def HP.emp : HP := ⟨fun _ K => K = [], fun h _ => h, fun h b hb => by rw [h] at hb; cases hb⟩
def nthM : List HP → Nat → HP
  | [], _ => HP.emp
  | a :: _, 0 => a
  | _ :: l, n + 1 => nthM l n
def dropM : Nat → List HP → List HP
  | 0, l => l
  | _ + 1, [] => []
  | n + 1, _ :: l => dropM n l
/-- the parts at the places, then all from the k-th on -/
def pikM (M : List HP) (k : Nat) : List Nat → List HP
  | [] => dropM k M
  | i :: is => nthM M i :: pikM M k is
def nthF : List Fact → Nat → Fact
  | [], _ => ⟨fun _ _ => True, fun h _ => h⟩
  | a :: _, 0 => a
  | _ :: l, n + 1 => nthF l n
def dropF : Nat → List Fact → List Fact
  | 0, l => l
  | _ + 1, [] => []
  | n + 1, _ :: l => dropF n l
def pikF (F : List Fact) (k : Nat) : List Nat → List Fact
  | [] => dropF k F
  | i :: is => nthF F i :: pikF F k is
theorem dropM_eq : ∀ (M : List HP) (k : Nat), dropM k M = M.drop k
  | _, 0 => by simp [dropM]
  | [], _ + 1 => by simp [dropM]
  | _ :: l, k + 1 => by simp [dropM, dropM_eq l k]
theorem nthM_get : ∀ {M : List HP} {i : Nat} (h : i < M.length), nthM M i = M[i]
  | [], _, h => absurd h (by simp)
  | _ :: _, 0, _ => rfl
  | _ :: l, n + 1, h => by simp only [List.length_cons] at h; show nthM l n = _; rw [nthM_get (by omega)]; rfl
theorem nthM_big : ∀ {M : List HP} {i : Nat}, M.length ≤ i → nthM M i = HP.emp
  | [], _, _ => rfl
  | _ :: _, 0, h => absurd h (by simp)
  | _ :: l, n + 1, h => nthM_big (M := l) (by simp only [List.length_cons] at h; omega)
theorem nthF_mem (F : List Fact) (i : Nat) : nthF F i ∈ F ∨ ∀ w K, (nthF F i).p w K := by
  induction F generalizing i with
  | nil => exact .inr fun _ _ => trivial
  | cons a l ih =>
    cases i with
    | zero => exact .inl (.head _)
    | succ n => rcases ih n with h | h; exact .inl (.tail _ h); exact .inr h
theorem dropF_mem {φ : Fact} : ∀ {F : List Fact} {k : Nat}, φ ∈ dropF k F → φ ∈ F
  | _, 0, h => h
  | [], _ + 1, h => h
  | _ :: _, _ + 1, h => .tail _ (dropF_mem h)
theorem St.toF {w : World} {M : List HP} {F : List Fact} (k : Nat) (fs : List Nat) (h : St w M F) : St w M (pikF F k fs) := by
  obtain ⟨K, ho, hn, hf⟩ := h
  refine ⟨K, ho, hn, ?_⟩
  induction fs with
  | nil => exact fun φ hφ => hf φ (dropF_mem hφ)
  | cons i is ih =>
    intro φ hφ
    rcases List.mem_cons.1 hφ with e | e
    · subst e
      rcases nthF_mem F i with h | h
      · exact hf _ h
      · exact h w K
    · exact ih φ e
theorem St.emp {w : World} {M : List HP} {F : List Fact} (h : St w M F) : St w (HP.emp :: M) F := by
  obtain ⟨K, ho, hn, hf⟩ := h
  exact ⟨K, ⟨[], K, rfl, rfl, ho⟩, hn, hf⟩
theorem St.dropped {w : World} {F : List Fact} : ∀ {A B : List HP}, St w (A ++ B) F → St w B F
  | [], _, h => h
  | _ :: A, B, h => St.dropped (A := A) (B := B) (by simpa using h.tail)
/-- each place once, none beyond k -/
def okM (k : Nat) : List Nat → Bool
  | [] => true
  | i :: is => Nat.blt i k && !(is.any fun j => Nat.beq i j) && okM k is
theorem okM_is {k : Nat} : ∀ {is : List Nat}, okM k is = true → is.Nodup ∧ ∀ i, i ∈ is → i < k
  | [], _ => ⟨List.nodup_nil, fun _ h => absurd h (by simp)⟩
  | i :: is, h => by
    simp only [okM, Bool.and_eq_true] at h
    obtain ⟨h1, h2⟩ := okM_is h.2
    have h3 : i ∉ is := by
      intro hm
      have : is.any (fun j => Nat.beq i j) = true := List.any_eq_true.2 ⟨i, hm, Nat.beq_refl i⟩
      rw [this] at h
      exact absurd h.1.2 (by simp)
    refine ⟨List.nodup_cons.2 ⟨h3, h1⟩, fun j hj => ?_⟩
    rcases List.mem_cons.1 hj with e | e
    · subst e
      have := h.1.1
      simpa [Nat.blt_eq] using this
    · exact h2 j e
theorem range_map_get (M : List HP) (k : Nat) (hk : k ≤ M.length) : (List.range k).map (nthM M) = M.take k := by
  apply List.ext_getElem (by simp; omega)
  intro i h1 h2
  simp at h1
  simp [nthM_get (show i < M.length by omega)]
theorem pickM_eq (M : List HP) (k : Nat) : ∀ (is : List Nat), pikM M k is = is.map (nthM M) ++ M.drop k
  | [] => by simp [pikM, dropM_eq]
  | i :: is => by simp [pikM, pickM_eq M k is]
theorem nodup_subperm {is : List Nat} {k : Nat} (h1 : is.Nodup) (h2 : ∀ i, i ∈ is → i < k) : ∃ js, (is ++ js).Perm (List.range k) := by
  refine ⟨(List.range k).filter (fun j => decide (j ∉ is)), ?_⟩
  have hn : (is ++ (List.range k).filter (fun j => decide (j ∉ is))).Nodup := by
    refine List.nodup_append.2 ⟨h1, (List.nodup_range).sublist List.filter_sublist, ?_⟩
    intro a ha b hb e
    subst e
    have := (List.mem_filter.1 hb).2
    simp at this
    exact this ha
  refine (List.perm_ext_iff_of_nodup hn List.nodup_range).2 fun a => ?_
  constructor
  · intro h
    rcases List.mem_append.1 h with h | h
    · exact List.mem_range.2 (h2 a h)
    · exact (List.mem_filter.1 h).1
  · intro h
    by_cases ha : a ∈ is
    · exact List.mem_append.2 (.inl ha)
    · exact List.mem_append.2 (.inr (List.mem_filter.2 ⟨h, by simpa using ha⟩))
/-- beyond the end there is nothing -/
theorem St.pad {w : World} {M : List HP} {F : List Fact} (k : Nat) (h : St w M F) : St w ((List.range k).map (nthM M) ++ M.drop k) F := by
  by_cases hk : k ≤ M.length
  · rw [range_map_get M k hk, List.take_append_drop]; exact h
  · have e1 : (List.range k).map (nthM M) = M ++ List.replicate (k - M.length) HP.emp := by
      apply List.ext_getElem (by simp; omega)
      intro i h1 h2
      simp at h1
      by_cases hi : i < M.length
      · simp [List.getElem_append_left hi, nthM_get hi]
      · rw [List.getElem_append_right (by omega)]
        simp [nthM_big (M := M) (i := i) (by omega)]
    rw [e1, List.drop_eq_nil_of_le (by omega), List.append_nil]
    have : ∀ n, St w (List.replicate n HP.emp ++ M) F := by
      intro n
      induction n with
      | zero => simpa using h
      | succ n ih => simpa [List.replicate_succ] using ih.emp
    exact (this _).perm List.perm_append_comm
theorem St.toM {w : World} {M : List HP} {F : List Fact} (k : Nat) (is : List Nat) (ok : okM k is = true) (h : St w M F) : St w (pikM M k is) F := by
  obtain ⟨h1, h2⟩ := okM_is ok
  obtain ⟨js, hp⟩ := nodup_subperm h1 h2
  rw [pickM_eq]
  have h3 := h.pad k
  have h4 : ((List.range k).map (nthM M) ++ M.drop k).Perm (js.map (nthM M) ++ (is.map (nthM M) ++ M.drop k)) := by
    have := (hp.map (nthM M)).symm
    rw [List.map_append] at this
    refine (this.append_right _).trans ?_
    rw [← List.append_assoc]
    exact List.perm_append_comm.append_right _
  exact St.dropped (h3.perm h4)
/-- blocks and facts by their places; what is not named is let go -/
theorem St.to {w : World} {M : List HP} {F : List Fact} (k : Nat) (is : List Nat) (kf : Nat) (fs : List Nat) (ok : okM k is = true) (h : St w M F) : St w (pikM M k is) (pikF F kf fs) := (h.toM k is ok).toF kf fs
/-- all the k parts, each once: what a call takes stands ahead -/
theorem Ctr.pick {P : Program} {f : FuncId} {args : List Value} {M : List HP} {F : List Fact} {ι : Type} {val : ι → Value} {M' : ι → List HP} {F' : ι → List Fact} (k : Nat) (is : List Nat) (ok : okM k is = true)
    (h : Ctr P f args (pikM M k is) F ι val M' F') : Ctr P f args M F ι val M' F' := fun w hw => h w (hw.toM k is ok)
section
variable {P : Program} {r : Option Nat} {N : Nat} {ops : Array Oper} {rest : List Oper} {Q : Exit → Act → World → Prop} {E : Env} {ds : List Deferred} {M : List HP} {F : List Fact}
theorem RL.pick (k : Nat) (is : List Nat) (ok : okM k is = true) (h : RL P r N ops rest Q E ds (pikM M k is) F) : RL P r N ops rest Q E ds M F := RL.weak (fun _ hw => hw.toM k is ok) h
theorem TR.pick {c : Code} (k : Nat) (is : List Nat) (ok : okM k is = true) (h : TR P r N c Q E ds (pikM M k is) F) : TR P r N c Q E ds M F := TR.weak (fun _ hw => hw.toM k is ok) h
theorem RL.to (k : Nat) (is : List Nat) (kf : Nat) (fs : List Nat) (ok : okM k is = true) (h : RL P r N ops rest Q E ds (pikM M k is) (pikF F kf fs)) : RL P r N ops rest Q E ds M F := RL.weak (fun _ hw => hw.to k is kf fs ok) h
theorem TR.to {c : Code} (k : Nat) (is : List Nat) (kf : Nat) (fs : List Nat) (ok : okM k is = true) (h : TR P r N c Q E ds (pikM M k is) (pikF F kf fs)) : TR P r N c Q E ds M F := TR.weak (fun _ hw => hw.to k is kf fs ok) h
end
/-! ### Many parts as one -/
/-- all the parts of a list, as one part -/
def Al (L : List HP) : HP where
  p w K := Own w L K
  loc := Own.loc
  lt := Own.lt
theorem St.alOpen {w : World} {L M : List HP} {F : List Fact} (h : St w (Al L :: M) F) : St w (L ++ M) F := by
  obtain ⟨K, ⟨K1, K2, e, h1, h2⟩, hn, hf⟩ := h
  exact ⟨K, Own.append.2 ⟨K1, K2, e, h1, h2⟩, hn, hf⟩
theorem St.alClose {w : World} {L M : List HP} {F : List Fact} (h : St w (L ++ M) F) : St w (Al L :: M) F := by
  obtain ⟨K, ho, hn, hf⟩ := h
  obtain ⟨K1, K2, e, h1, h2⟩ := Own.append.1 ho
  exact ⟨K, ⟨K1, K2, e, h1, h2⟩, hn, hf⟩
theorem St.alSnoc {w : World} {L M : List HP} {r : HP} {F : List Fact} (h : St w (r :: Al L :: M) F) : St w (Al (L ++ [r]) :: M) F := by
  refine St.alClose ?_
  have h1 := St.alOpen (h.perm (.swap _ _ _))
  rw [List.append_assoc]
  exact h1
theorem St.alNil {w : World} {M : List HP} {F : List Fact} (h : St w M F) : St w (Al [] :: M) F := St.alClose h
theorem St.alCut {w : World} {L M : List HP} {F : List Fact} (i : Nat) (hi : i < L.length) (h : St w (Al L :: M) F) : St w (L[i] :: Al (L.take i) :: Al (L.drop (i + 1)) :: M) F := by
  have h1 := St.alOpen h
  have e : L ++ M = L.take i ++ (L[i] :: (L.drop (i + 1) ++ M)) := by
    have e2 : L = L.take i ++ (L[i] :: L.drop (i + 1)) := by rw [← List.drop_eq_getElem_cons hi, List.take_append_drop]
    exact (congrArg (· ++ M) e2).trans (by simp only [List.append_assoc, List.cons_append])
  rw [e] at h1
  have h2 : St w (L[i] :: (L.take i ++ (L.drop (i + 1) ++ M))) F := h1.perm List.perm_middle
  have h3 : St w (L.drop (i + 1) ++ (L[i] :: (L.take i ++ M))) F := h2.perm ((List.Perm.cons _ (perm_mid _ _ _)).trans List.perm_middle.symm)
  have h4 := St.alClose h3
  have h5 : St w (L.take i ++ (L[i] :: Al (L.drop (i + 1)) :: M)) F := h4.perm (by
    refine (List.Perm.swap _ _ _).trans ?_
    refine (List.Perm.cons _ (List.perm_middle.symm)).trans ?_
    exact List.perm_middle.symm)
  exact (St.alClose h5).perm (.swap _ _ _)
theorem St.alJoin {w : World} {L1 L2 M : List HP} {r : HP} {F : List Fact} (h : St w (r :: Al L1 :: Al L2 :: M) F) : St w (Al (L1 ++ r :: L2) :: M) F := by
  refine St.alClose ?_
  have h1 : St w (L1 ++ (r :: Al L2 :: M)) F := St.alOpen (h.perm (.swap _ _ _))
  have h2 : St w (Al L2 :: (L1 ++ (r :: M))) F := h1.perm ((List.Perm.append_left _ (.swap _ _ _)).trans List.perm_middle)
  have h3 : St w (L2 ++ (L1 ++ (r :: M))) F := St.alOpen h2
  rw [List.append_assoc]
  have h4 : St w (L1 ++ (L2 ++ (r :: M))) F := h3.perm (perm_mid _ _ _)
  exact h4.perm (List.Perm.append_left L1 List.perm_middle)
end Go.GL

namespace Go.GL
set_option linter.unusedVariables false
/-! ### What a disk shows -/
def vB (fs : Fs) (n : Nat) : List UInt8 := (fget fs n).b
def vD (fs : Fs) (n : Nat) : Nat := (fget fs n).dur
def filesB (B : Nat → List UInt8) : List Nat := (List.range 64).filter fun n => !(B n).isEmpty
def keepK (keep : List Int) (i room : Nat) : Nat := match keep[i]? with
  | some k => (max 0 (min k (room : Int))).toNat
  | none => 0
theorem keepK_le (keep : List Int) (i room : Nat) : keepK keep i room ≤ room := by
  unfold keepK; split <;> omega
/-- what a crash lets stand of file n, nothing inverted -/
def cutB (B : Nat → List UInt8) (D : Nat → Nat) (keep : List Int) (n : Nat) : List UInt8 := (B n).take (D n + keepK keep ((filesB B).idxOf n) ((B n).length - D n))
def looseB (B : Nat → List UInt8) (D : Nat → Nat) (keep : List Int) : List (Nat × Nat) := (filesB B).flatMap fun n => (List.range' (D n) ((cutB B D keep n).length - D n)).map fun j => (n, j)
def flipB (x : UInt8) (r : Nat) : UInt8 := UInt8.ofNat (x.toNat ^^^ 2 ^ (7 - r))
def turnB (b : List UInt8) (j r : Nat) : List UInt8 := b.set j (flipB (b.getD j 0) r)
def crashB (B : Nat → List UInt8) (D : Nat → Nat) (keep : List Int) (flip : Int) (n : Nat) : List UInt8 :=
  if flip < 0 then cutB B D keep n else
  match (looseB B D keep)[flip.toNat % (8 * (looseB B D keep).length) / 8]? with
  | some (m, j) => if n = m then turnB (cutB B D keep n) j (flip.toNat % (8 * (looseB B D keep).length) % 8) else cutB B D keep n
  | none => cutB B D keep n
theorem cutB_len (B : Nat → List UInt8) (D : Nat → Nat) (keep : List Int) (n : Nat) : (cutB B D keep n).length ≤ (B n).length := by
  unfold cutB; rw [List.length_take]; omega
theorem turnB_len (b : List UInt8) (j r : Nat) : (turnB b j r).length = b.length := by unfold turnB; rw [List.length_set]
theorem crashB_len (B : Nat → List UInt8) (D : Nat → Nat) (keep : List Int) (flip : Int) (n : Nat) : (crashB B D keep flip n).length = (cutB B D keep n).length := by
  unfold crashB
  split
  · rfl
  · split
    · split
      · rw [turnB_len]
      · rfl
    · rfl
theorem crashB_calm (B : Nat → List UInt8) (D : Nat → Nat) (keep : List Int) (flip : Int) (n : Nat) (h : flip < 0) : crashB B D keep flip n = cutB B D keep n := by unfold crashB; rw [if_pos h]
/-- what a crash leaves -/
structure CrashR (s : Ds) (keep : List Int) (flip : Int) (t : Ds) : Prop where
  m : t.m = s.m
  room : t.room = s.room
  off : t.off = false
  armed : t.armed = false
  left : t.left = s.left
  ok : OkF t.fs
  b : ∀ n, n < 64 → vB t.fs n = crashB (vB s.fs) (vD s.fs) keep flip n
  d : ∀ n, n < 64 → vD t.fs n = (vB t.fs n).length
/-! ### The rows that a crash makes -/
structure CrR where
  n : Nat
  b : List UInt8
  d : Nat
  oa : Option Addr
  c : Nat
def CrR.f (r : CrR) : Fl := ⟨r.b, r.d, r.oa, r.c⟩
def crOwn (e : Nat) (r : CrR) : HP := OwnSl e 1 r.oa r.b.length r.c (bytesV r.b)
def crPtr (r : CrR) (j : Nat) : Value := .pointer (r.oa.map fun a => a.add (j * 1))
def crLoose (rs : List CrR) : List (CrR × Nat) := rs.flatMap fun r => (List.range' r.d (r.b.length - r.d)).map fun j => (r, j)
def crPtrs (rs : List CrR) : List Value := (crLoose rs).map fun x => crPtr x.1 x.2
theorem crLoose_snoc (rs : List CrR) (r : CrR) : crLoose (rs ++ [r]) = crLoose rs ++ (List.range' r.d (r.b.length - r.d)).map fun j => (r, j) := by
  unfold crLoose; rw [List.flatMap_append]; simp
theorem crLoose_mem {rs : List CrR} {x : CrR × Nat} (h : x ∈ crLoose rs) : x.1 ∈ rs ∧ x.1.d ≤ x.2 ∧ x.2 < x.1.b.length := by
  obtain ⟨r, hr, hx⟩ := List.mem_flatMap.1 h
  obtain ⟨j, hj, rfl⟩ := List.mem_map.1 hx
  have := List.mem_range'_1.1 hj
  exact ⟨hr, this.1, by have := this.2; show j < r.b.length; omega⟩
/-- the files when the first i of them (in order) have been cut -/
structure CrSt (s : Ds) (keep : List Int) (i : Nat) (fs : Fs) (rs : List CrR) : Prop where
  ok : OkF fs
  len : rs.length = i
  n : rs.map CrR.n = (filesB (vB s.fs)).take i
  b : ∀ r, r ∈ rs → r.b = cutB (vB s.fs) (vD s.fs) keep r.n ∧ r.d = vD s.fs r.n ∧ r.d ≤ r.b.length ∧ r.b.length ≤ r.c
  done : ∀ r, r ∈ rs → fget fs r.n = (if r.b = [] then fl0 else r.f)
  rest : ∀ k : Nat, k ∉ rs.map CrR.n → fget fs k = fget s.fs k
end Go.GL
