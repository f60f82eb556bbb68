/- Walks of the functions of package syntax and of its reference model. Printed by s07.py. -/
import Derived.Test.YtnolpmigiboanaaSm7
import Derived.Test.YtnolpmigiboanaaTq
namespace Go.Proofs.Ytnolpmigiboanaa
open Go.GL Go.GL.Tree
set_option linter.unusedVariables false
theorem C_bs65_1_0 (x00 : Int) (x01 : Int) (x02 : List UInt8) : BuildSV Try.prog 65 64 1 [(0, .agg #[.int .i64 x00, .int .i64 x01, S x02])] [.int .i64 x00, .int .i64 x01, S x02] := fun w => by kernel_rfl
theorem C_bv64_0_1_2 (x0 : Int) (x1 : Int) (x2 : List UInt8) : BuildV Try.prog 64 [(0, .int .i64 x0), (1, .int .i64 x1), (2, S x2)] (.agg #[.int .i64 x0, .int .i64 x1, S x2]) := fun w => by kernel_rfl
theorem C_ta25 : tyAgg Try.prog 25 4 = true := by kernel_rfl
theorem C_tz25 : tySize Try.prog 25 4 = true := by kernel_rfl
theorem apply_ok {s x : List UInt8} {es : List Ed} {oa : Option Addr} {ca : Nat} {M : List HP} {F : List Fact} (ha : ArrF oa (edC es) ∈ F) (hl : es.length ≤ 4611686018427387904) (hE : soundE s.length es = 0) (hG : applyGo s 0 es = x) (hb : x.length ≤ 140737488355328) :
    Ctr Try.prog 35 [S s, .slice oa es.length ca] M F Unit (fun _ => .tuple #[S x, I 0]) (fun _ => M) (fun _ => F) := by
  have h := apply_spec (s := s) (ca := ca) (M := M) ha hl (fun _ => by rw [hG]; exact hb)
  unfold applyE at h
  rw [if_pos hE, hG] at h
  exact h

set_option maxHeartbeats 1000000 in
theorem law_edits {M : List HP} {F : List Fact} {xs ys zs : List Int} {oa ob oc : Option Addr} {ca cb cc : Nat} (ha : ArrF oa (ints xs) ∈ F) (hxs : IntsOk xs) (hb : ArrF ob (ints ys) ∈ F) (hys : IntsOk ys) (hc : ArrF oc (ints zs) ∈ F) (hzs : IntsOk zs) : Ctr Try.prog 10 [.slice oa xs.length ca, .slice ob ys.length cb, .slice oc zs.length cc] M F Unit (fun _ => .bool true) (fun _ => M) (fun _ => F) := by
  refine Ctr.body Try.func10 rfl rfl ?_
  refine TR.seq ?_
  refine TR.region ?_
  refine RL.assign rfl rfl rfl ?_
  refine RL.nil ?_
  refine NX.seq ?_
  refine TR.seq ?_
  refine TR.region ?_
  refine RL.move rfl rfl rfl ?_
  refine RL.call rfl rfl Try.call12 rfl (Tree_spec ha hxs) (fun N => ?_)
  refine RL.allocA rfl (Try.zeroValue25) rfl (fun b1 => ?_)
  refine RL.storeA 0 rfl rfl rfl rfl C_tz25 rfl rfl ?_
  refine RL.nil ?_
  refine NX.seq ?_
  refine TR.seq ?_
  refine TR.region ?_
  refine RL.move rfl rfl rfl ?_
  refine RL.call rfl rfl Try.call12 rfl (Tree_spec (.tail _ hc) hzs) (fun Y => ?_)
  refine RL.allocA rfl (Try.zeroValue25) rfl (fun b2 => ?_)
  refine RL.storeA 0 rfl rfl rfl rfl C_tz25 rfl rfl ?_
  refine RL.nil ?_
  refine NX.seq ?_
  refine TR.seq ?_
  refine TR.region ?_
  refine RL.loadA 1 rfl rfl rfl C_ta25 rfl ?_
  refine RL.move rfl rfl rfl ?_
  refine RL.call rfl rfl Try.call15 rfl (route_spec N.2 (by omega) (by first | exact .head _ | exact .tail _ (.head _) | exact .tail _ (.tail _ (.head _)) | exact .tail _ (.tail _ (.tail _ (.head _))) | exact .tail _ (.tail _ (.tail _ (.tail _ (.head _)))) | exact .tail _ (.tail _ (.tail _ (.tail _ (.tail _ (.head _))))) | exact .tail _ (.tail _ (.tail _ (.tail _ (.tail _ (.tail _ (.head _)))))) | exact .tail _ (.tail _ (.tail _ (.tail _ (.tail _ (.tail _ (.tail _ (.head _))))))) | exact .tail _ (.tail _ (.tail _ (.tail _ (.tail _ (.tail _ (.tail _ (.tail _ (.head _)))))))) | exact .tail _ (.tail _ (.tail _ (.tail _ (.tail _ (.tail _ (.tail _ (.tail _ (.tail _ (.head _)))))))))) (.tail _ (.tail _ hb)) hys) (fun R => ?_)
  refine RL.assign rfl rfl rfl ?_
  refine RL.nil ?_
  refine NX.seq ?_
  refine TR.seq ?_
  refine TR.region ?_
  refine RL.loadA 1 rfl rfl rfl C_ta25 rfl ?_
  refine RL.move rfl rfl rfl ?_
  refine RL.call rfl rfl Try.call22 rfl (get_spec N.2 (by omega) (by first | exact .head _ | exact .tail _ (.head _) | exact .tail _ (.tail _ (.head _)) | exact .tail _ (.tail _ (.tail _ (.head _))) | exact .tail _ (.tail _ (.tail _ (.tail _ (.head _)))) | exact .tail _ (.tail _ (.tail _ (.tail _ (.tail _ (.head _))))) | exact .tail _ (.tail _ (.tail _ (.tail _ (.tail _ (.tail _ (.head _)))))) | exact .tail _ (.tail _ (.tail _ (.tail _ (.tail _ (.tail _ (.tail _ (.head _))))))) | exact .tail _ (.tail _ (.tail _ (.tail _ (.tail _ (.tail _ (.tail _ (.tail _ (.head _)))))))) | exact .tail _ (.tail _ (.tail _ (.tail _ (.tail _ (.tail _ (.tail _ (.tail _ (.tail _ (.head _)))))))))) (ca := R.1.oc) (ps := R.1.ps) (by first | exact .head _ | exact .tail _ (.head _) | exact .tail _ (.tail _ (.head _)) | exact .tail _ (.tail _ (.tail _ (.head _))) | exact .tail _ (.tail _ (.tail _ (.tail _ (.head _)))) | exact .tail _ (.tail _ (.tail _ (.tail _ (.tail _ (.head _))))) | exact .tail _ (.tail _ (.tail _ (.tail _ (.tail _ (.tail _ (.head _)))))) | exact .tail _ (.tail _ (.tail _ (.tail _ (.tail _ (.tail _ (.tail _ (.head _))))))) | exact .tail _ (.tail _ (.tail _ (.tail _ (.tail _ (.tail _ (.tail _ (.tail _ (.head _)))))))) | exact .tail _ (.tail _ (.tail _ (.tail _ (.tail _ (.tail _ (.tail _ (.tail _ (.tail _ (.head _)))))))))) (by have := R.2.1; omega)) (fun G => ?_)
  refine RL.move rfl rfl rfl ?_
  refine RL.extract rfl rfl rfl rfl ?_
  refine RL.extract rfl rfl rfl rfl ?_
  refine RL.extract rfl rfl rfl rfl ?_
  refine RL.allocA rfl (Try.zeroValue25) rfl (fun b3 => ?_)
  refine RL.storeA 0 rfl rfl rfl rfl C_tz25 rfl rfl ?_
  refine RL.assign rfl rfl rfl ?_
  refine RL.assign rfl rfl rfl ?_
  refine RL.nil ?_
  refine NX.seq ?_
  refine TR.seq ?_
  refine TR.region ?_
  refine RL.loadA 2 rfl rfl rfl C_ta25 rfl ?_
  refine RL.move rfl rfl rfl ?_
  refine RL.loadA 1 rfl rfl rfl C_ta25 rfl ?_
  refine RL.call rfl rfl Try.call24 rfl (replace_spec N.2 (by omega) (by first | exact .head _ | exact .tail _ (.head _) | exact .tail _ (.tail _ (.head _)) | exact .tail _ (.tail _ (.tail _ (.head _))) | exact .tail _ (.tail _ (.tail _ (.tail _ (.head _)))) | exact .tail _ (.tail _ (.tail _ (.tail _ (.tail _ (.head _))))) | exact .tail _ (.tail _ (.tail _ (.tail _ (.tail _ (.tail _ (.head _)))))) | exact .tail _ (.tail _ (.tail _ (.tail _ (.tail _ (.tail _ (.tail _ (.head _))))))) | exact .tail _ (.tail _ (.tail _ (.tail _ (.tail _ (.tail _ (.tail _ (.tail _ (.head _)))))))) | exact .tail _ (.tail _ (.tail _ (.tail _ (.tail _ (.tail _ (.tail _ (.tail _ (.tail _ (.head _)))))))))) Y.2 (by omega) (by first | exact .head _ | exact .tail _ (.head _) | exact .tail _ (.tail _ (.head _)) | exact .tail _ (.tail _ (.tail _ (.head _))) | exact .tail _ (.tail _ (.tail _ (.tail _ (.head _)))) | exact .tail _ (.tail _ (.tail _ (.tail _ (.tail _ (.head _))))) | exact .tail _ (.tail _ (.tail _ (.tail _ (.tail _ (.tail _ (.head _)))))) | exact .tail _ (.tail _ (.tail _ (.tail _ (.tail _ (.tail _ (.tail _ (.head _))))))) | exact .tail _ (.tail _ (.tail _ (.tail _ (.tail _ (.tail _ (.tail _ (.tail _ (.head _)))))))) | exact .tail _ (.tail _ (.tail _ (.tail _ (.tail _ (.tail _ (.tail _ (.tail _ (.tail _ (.head _)))))))))) (ca := R.1.oc) (ps := R.1.ps) (by first | exact .head _ | exact .tail _ (.head _) | exact .tail _ (.tail _ (.head _)) | exact .tail _ (.tail _ (.tail _ (.head _))) | exact .tail _ (.tail _ (.tail _ (.tail _ (.head _)))) | exact .tail _ (.tail _ (.tail _ (.tail _ (.tail _ (.head _))))) | exact .tail _ (.tail _ (.tail _ (.tail _ (.tail _ (.tail _ (.head _)))))) | exact .tail _ (.tail _ (.tail _ (.tail _ (.tail _ (.tail _ (.tail _ (.head _))))))) | exact .tail _ (.tail _ (.tail _ (.tail _ (.tail _ (.tail _ (.tail _ (.tail _ (.head _)))))))) | exact .tail _ (.tail _ (.tail _ (.tail _ (.tail _ (.tail _ (.tail _ (.tail _ (.tail _ (.head _)))))))))) (by have := R.2.1; omega)) (fun Z => ?_)
  refine RL.move rfl rfl rfl ?_
  refine RL.extract rfl rfl rfl rfl ?_
  refine RL.extract rfl rfl rfl rfl ?_
  refine RL.allocA rfl (Try.zeroValue25) rfl (fun b4 => ?_)
  refine RL.storeA 0 rfl rfl rfl rfl C_tz25 rfl rfl ?_
  refine RL.assign rfl rfl rfl ?_
  refine RL.nil ?_
  refine NX.seq ?_
  refine TR.seq ?_
  refine TR.seq ?_
  refine TR.region ?_
  have hlaw := edit_law (u := Y.1.t) (ps := R.1.ps) N.2
  refine RL.move rfl rfl rfl ?_
  refine RL.not rfl rfl rfl ?_
  refine RL.move rfl rfl rfl ?_
  refine RL.part (fun h5 => ?_) (fun h5 => ?_)
  · skip
    have hg : (N.1.t.getR R.1.ps).2.2 = false := by simpa using h5
    have hr : (Tree.replR N.1.t R.1.ps Y.1.t).2 = false := by rw [← hlaw.1]; exact hg
    refine RL.skip rfl rfl rfl ?_
    refine RL.skip rfl rfl rfl ?_
    refine RL.pickT rfl rfl rfl rfl ?_
    refine RL.nil ?_
    refine NX.seq ?_
    refine TR.condT rfl ?_
    refine TR.seq ?_
    refine TR.region ?_
    refine RL.move rfl rfl rfl ?_
    refine RL.not rfl rfl rfl ?_
    refine RL.move rfl rfl rfl ?_
    refine RL.part (fun h6 => ?_) (fun h6 => ?_)
    · skip
      refine RL.move rfl rfl rfl ?_
      refine RL.not rfl rfl rfl ?_
      refine RL.pickT rfl rfl rfl rfl ?_
      refine RL.move rfl rfl rfl ?_
      refine RL.part (fun h7 => ?_) (fun h7 => ?_)
      · skip
        refine RL.call rfl rfl Try.call14 rfl (lives_spec) (fun _ => ?_)
        refine RL.pickT rfl rfl rfl rfl ?_
        refine RL.assign rfl rfl rfl ?_
        refine RL.nil ?_
        refine NX.seq ?_
        refine TR.ret ?_
        refine NX.retThen ?_
        exact NX.ret1 () rfl rfl rfl (fun w hw => ((((hw.drop 0 rfl).drop 0 rfl).drop 0 rfl).drop 0 rfl).facts (fun φ h => by simp [h]))
      · skip
        rw [hr] at h7; cases h7
    · skip
      rw [hg] at h6; cases h6
  · skip
    have hg : (N.1.t.getR R.1.ps).2.2 = true := by simpa using h5
    have hr : (Tree.replR N.1.t R.1.ps Y.1.t).2 = true := by rw [← hlaw.1]; exact hg
    refine RL.move rfl rfl rfl ?_
    refine RL.not rfl rfl rfl ?_
    refine RL.pickF rfl rfl rfl rfl ?_
    refine RL.nil ?_
    refine NX.seq ?_
    refine TR.cond rfl (fun h8 => ?_) (fun h8 => ?_)
    · skip
      rw [hr] at h8; cases h8
    · skip
      obtain ⟨a0, c0, hl1, hl2, hl3⟩ := hlaw.2 hr
      have hw0 := N.2.width6 (by omega)
      have hw1 := Y.2.width6 (by omega)
      unfold Tree.width at hw0 hw1
      have hl4 := congrArg List.length hl1
      have hl5 := congrArg List.length hl2
      simp only [List.length_append] at hl4 hl5
      have hzw : Z.1.t.width ≤ 2000000 := by unfold Tree.width; rw [Z.2]; omega
      have hgw : G.1.t.width ≤ 2000000 := by unfold Tree.width; rw [G.2]; omega
      have hE : soundE N.1.t.text.length [⟨(N.1.t.getR R.1.ps).2.1, (N.1.t.getR R.1.ps).2.1 + (G.1.t.width : Int), Y.1.t.text⟩] = 0 ∧ applyGo N.1.t.text 0 [⟨(N.1.t.getR R.1.ps).2.1, (N.1.t.getR R.1.ps).2.1 + (G.1.t.width : Int), Y.1.t.text⟩] = Z.1.t.text := by
        have h9 := edit_one (x := Y.1.t.text) hl1
        rw [Z.2, hl2, hl3]
        unfold Tree.width
        rw [G.2]
        exact h9
      obtain ⟨hE1, hE2⟩ := hE
      have hl6 : 0 ≤ (N.1.t.getR R.1.ps).2.1 ∧ (N.1.t.getR R.1.ps).2.1 ≤ 2000000 := by rw [hl3]; omega
      refine TR.skip ?_
      refine NX.seq ?_
      refine TR.seq ?_
      refine TR.region ?_
      refine RL.loadA 3 rfl rfl rfl C_ta25 rfl ?_
      refine RL.call rfl rfl Try.call19 rfl (text_spec (t := N.1.t) (by first | exact .head _ | exact .tail _ (.head _) | exact .tail _ (.tail _ (.head _)) | exact .tail _ (.tail _ (.tail _ (.head _))) | exact .tail _ (.tail _ (.tail _ (.tail _ (.head _)))) | exact .tail _ (.tail _ (.tail _ (.tail _ (.tail _ (.head _))))) | exact .tail _ (.tail _ (.tail _ (.tail _ (.tail _ (.tail _ (.head _)))))) | exact .tail _ (.tail _ (.tail _ (.tail _ (.tail _ (.tail _ (.tail _ (.head _))))))) | exact .tail _ (.tail _ (.tail _ (.tail _ (.tail _ (.tail _ (.tail _ (.tail _ (.head _)))))))) | exact .tail _ (.tail _ (.tail _ (.tail _ (.tail _ (.tail _ (.tail _ (.tail _ (.tail _ (.head _)))))))))) (by have := N.2.width6 (by omega); omega)) (fun _ => ?_)
      refine RL.assign rfl rfl rfl ?_
      refine RL.nil ?_
      refine NX.seq ?_
      refine TR.seq ?_
      refine TR.sub (E' := [(6, _), (8, _), (10, _), (11, _), (13, _), (15, _)]) ⟨rfl, rfl, rfl, rfl, rfl, rfl, trivial⟩ ?_
      refine TR.draw mixed ?_
      apply AR.more [(0, _), (1, _), (2, _), (3, _), (6, _)]
      refine AR.eff [0, 1, 2, 3, 6] 4 [0, 1, 2, 3, 4, 5, 6, 7, 8, 9, 10, 11, 12, 13, 14, 15] ⟨QOne.yes rfl rfl rfl (PV.move rfl), QOne.yes rfl rfl rfl (PV.move rfl), QOne.yes rfl rfl rfl (PV.move rfl), QOne.yes rfl rfl rfl (PV.loadA 1 rfl rfl C_ta25), QOne.yes rfl rfl rfl (PV.loadA 2 rfl rfl C_ta25), trivial⟩ rfl rfl rfl rfl rfl rfl rfl (EV.call rfl Try.call23 (width_spec (t := G.1.t) (by first | exact .head _ | exact .tail _ (.head _) | exact .tail _ (.tail _ (.head _)) | exact .tail _ (.tail _ (.tail _ (.head _))) | exact .tail _ (.tail _ (.tail _ (.tail _ (.head _)))) | exact .tail _ (.tail _ (.tail _ (.tail _ (.tail _ (.head _))))) | exact .tail _ (.tail _ (.tail _ (.tail _ (.tail _ (.tail _ (.head _)))))) | exact .tail _ (.tail _ (.tail _ (.tail _ (.tail _ (.tail _ (.tail _ (.head _))))))) | exact .tail _ (.tail _ (.tail _ (.tail _ (.tail _ (.tail _ (.tail _ (.tail _ (.head _)))))))) | exact .tail _ (.tail _ (.tail _ (.tail _ (.tail _ (.tail _ (.tail _ (.tail _ (.tail _ (.head _)))))))))) (by have : G.1.t.width ≤ 2000000 := hgw; omega))) (fun _ => ?_)
      refine AR.done [3] rfl ?_
      apply AR.more [(5, _)]
      refine AR.eff [0, 1, 2, 5, 6] 7 [0, 1, 2, 3, 4, 5, 6, 7, 8, 9, 10, 11, 12, 13, 14, 15] ⟨QOne.yes rfl rfl rfl (PV.move rfl), QOne.yes rfl rfl rfl (PV.move rfl), QOne.yes rfl rfl rfl (PV.move rfl), QOne.yes rfl rfl rfl (PV.bin rfl rfl (BinV.add _ rfl (by omega) (by omega))), QOne.yes rfl rfl rfl (PV.loadA 2 rfl rfl C_ta25), trivial⟩ rfl rfl rfl rfl rfl rfl rfl (EV.call rfl Try.call19 (text_spec (t := Y.1.t) (by first | exact .head _ | exact .tail _ (.head _) | exact .tail _ (.tail _ (.head _)) | exact .tail _ (.tail _ (.tail _ (.head _))) | exact .tail _ (.tail _ (.tail _ (.tail _ (.head _)))) | exact .tail _ (.tail _ (.tail _ (.tail _ (.tail _ (.head _))))) | exact .tail _ (.tail _ (.tail _ (.tail _ (.tail _ (.tail _ (.head _)))))) | exact .tail _ (.tail _ (.tail _ (.tail _ (.tail _ (.tail _ (.tail _ (.head _))))))) | exact .tail _ (.tail _ (.tail _ (.tail _ (.tail _ (.tail _ (.tail _ (.tail _ (.head _)))))))) | exact .tail _ (.tail _ (.tail _ (.tail _ (.tail _ (.tail _ (.tail _ (.tail _ (.tail _ (.head _)))))))))) (by have := Y.2.width6 (by omega); omega))) (fun _ => ?_)
      refine AR.done [6] rfl ?_
      apply AR.more [(8, _)]
      refine AR.eff [0, 1, 2, 5, 8] 9 [0, 1, 2, 3, 4, 5, 6, 7, 8, 9, 10, 11, 12, 13, 14, 15] ⟨QOne.yes rfl rfl rfl (PV.move rfl), QOne.yes rfl rfl rfl (PV.move rfl), QOne.yes rfl rfl rfl (PV.move rfl), QOne.yes rfl rfl rfl (PV.bin rfl rfl (BinV.add _ rfl (by omega) (by omega))), QOne.yes rfl rfl rfl (PV.build rfl (C_bv64_0_1_2 _ _ _)), trivial⟩ rfl rfl rfl rfl rfl rfl rfl (EV.buildSlice rfl (C_bs65_1_0 _ _ _)) (fun eb => ?_)
      refine AR.weak (fun w hw => hw.boxArr) ?_
      refine AR.done [8, 1, 5, 2] rfl ?_
      refine AR.eff [0] 10 [0, 1, 2, 3, 4, 5, 6, 7, 8, 9, 10, 11, 12, 13, 14, 15] ⟨QOne.yes rfl rfl rfl (PV.move rfl), trivial⟩ rfl rfl rfl rfl rfl rfl rfl (EV.call rfl Try.call35 (apply_ok (x := Z.1.t.text) (es := [⟨(N.1.t.getR R.1.ps).2.1, (N.1.t.getR R.1.ps).2.1 + (G.1.t.width : Int), Y.1.t.text⟩]) (by first | exact .head _ | exact .tail _ (.head _) | exact .tail _ (.tail _ (.head _)) | exact .tail _ (.tail _ (.tail _ (.head _))) | exact .tail _ (.tail _ (.tail _ (.tail _ (.head _)))) | exact .tail _ (.tail _ (.tail _ (.tail _ (.tail _ (.head _))))) | exact .tail _ (.tail _ (.tail _ (.tail _ (.tail _ (.tail _ (.head _)))))) | exact .tail _ (.tail _ (.tail _ (.tail _ (.tail _ (.tail _ (.tail _ (.head _))))))) | exact .tail _ (.tail _ (.tail _ (.tail _ (.tail _ (.tail _ (.tail _ (.tail _ (.head _)))))))) | exact .tail _ (.tail _ (.tail _ (.tail _ (.tail _ (.tail _ (.tail _ (.tail _ (.tail _ (.head _)))))))))) (by simp) hE1 hE2 (by have : Z.1.t.width ≤ 2000000 := hzw; unfold Tree.width at this; omega))) (fun _ => ?_)
      refine AR.done [0] rfl ?_
      apply AR.more [(11, _), (12, _), (13, _), (14, _), (15, _)]
      refine AR.last [11, 12, 13, 14, 15] [0, 1, 2, 3, 4, 5, 6, 7, 8, 9, 10, 11, 12, 13, 14, 15] ⟨QOne.yes rfl rfl rfl (PV.move rfl), QOne.yes rfl rfl rfl (PV.extract rfl rfl), QOne.yes rfl rfl rfl (PV.extract rfl rfl), QOne.yes rfl rfl rfl (PV.assign rfl), QOne.yes rfl rfl rfl (PV.assign rfl), trivial⟩ rfl rfl rfl ?_
      refine NX.sub (E' := [(6, _), (13, _), (15, _), (16, _), (17, _)]) ⟨rfl, rfl, rfl, rfl, rfl, trivial⟩ ?_
      refine NX.seq ?_
      refine TR.seq ?_
      refine TR.region ?_
      refine RL.move rfl rfl rfl ?_
      refine RL.move rfl rfl rfl ?_
      refine RL.loadA 0 rfl rfl rfl C_ta25 rfl ?_
      refine RL.call rfl rfl Try.call19 rfl (text_spec (t := Z.1.t) (by first | exact .head _ | exact .tail _ (.head _) | exact .tail _ (.tail _ (.head _)) | exact .tail _ (.tail _ (.tail _ (.head _))) | exact .tail _ (.tail _ (.tail _ (.tail _ (.head _)))) | exact .tail _ (.tail _ (.tail _ (.tail _ (.tail _ (.head _))))) | exact .tail _ (.tail _ (.tail _ (.tail _ (.tail _ (.tail _ (.head _)))))) | exact .tail _ (.tail _ (.tail _ (.tail _ (.tail _ (.tail _ (.tail _ (.head _))))))) | exact .tail _ (.tail _ (.tail _ (.tail _ (.tail _ (.tail _ (.tail _ (.tail _ (.head _)))))))) | exact .tail _ (.tail _ (.tail _ (.tail _ (.tail _ (.tail _ (.tail _ (.tail _ (.tail _ (.head _)))))))))) (by have : Z.1.t.width ≤ 2000000 := hzw; omega)) (fun _ => ?_)
      refine RL.call rfl rfl Try.call36 rfl (diff_spec (by have := N.2.width6 (by omega); unfold Tree.width at this; omega) (by have : Z.1.t.width ≤ 2000000 := hzw; unfold Tree.width at this; omega)) (fun D => ?_)
      refine RL.call rfl rfl Try.call35 rfl (apply_ok (x := Z.1.t.text) (es := D.1.es) (by first | exact .head _ | exact .tail _ (.head _) | exact .tail _ (.tail _ (.head _)) | exact .tail _ (.tail _ (.tail _ (.head _))) | exact .tail _ (.tail _ (.tail _ (.tail _ (.head _)))) | exact .tail _ (.tail _ (.tail _ (.tail _ (.tail _ (.head _))))) | exact .tail _ (.tail _ (.tail _ (.tail _ (.tail _ (.tail _ (.head _)))))) | exact .tail _ (.tail _ (.tail _ (.tail _ (.tail _ (.tail _ (.tail _ (.head _))))))) | exact .tail _ (.tail _ (.tail _ (.tail _ (.tail _ (.tail _ (.tail _ (.tail _ (.head _)))))))) | exact .tail _ (.tail _ (.tail _ (.tail _ (.tail _ (.tail _ (.tail _ (.tail _ (.tail _ (.head _)))))))))) (by have := D.2.one; omega) (by unfold soundE; rw [if_neg (by have := D.2.one; omega)]; exact D.2.sound) D.2.apply (by have : Z.1.t.width ≤ 2000000 := hzw; unfold Tree.width at this; omega)) (fun _ => ?_)
      refine RL.move rfl rfl rfl ?_
      refine RL.extract rfl rfl rfl rfl ?_
      refine RL.extract rfl rfl rfl rfl ?_
      refine RL.assign rfl rfl rfl ?_
      refine RL.assign rfl rfl rfl ?_
      refine RL.nil ?_
      refine NX.seq ?_
      refine TR.seq ?_
      refine TR.region ?_
      refine RL.move rfl rfl rfl ?_
      refine RL.bin rfl rfl rfl (BinV.to (d := true) BinV.eql (by simp)) rfl ?_
      refine RL.move rfl rfl rfl ?_
      refine RL.move rfl rfl rfl ?_
      refine RL.bin rfl rfl rfl (BinV.to (d := true) BinV.eql (by simp)) rfl ?_
      refine RL.pickT rfl rfl rfl rfl ?_
      refine RL.move rfl rfl rfl ?_
      refine RL.move rfl rfl rfl ?_
      refine RL.loadA 0 rfl rfl rfl C_ta25 rfl ?_
      refine RL.call rfl rfl Try.call19 rfl (text_spec (t := Z.1.t) (by first | exact .head _ | exact .tail _ (.head _) | exact .tail _ (.tail _ (.head _)) | exact .tail _ (.tail _ (.tail _ (.head _))) | exact .tail _ (.tail _ (.tail _ (.tail _ (.head _)))) | exact .tail _ (.tail _ (.tail _ (.tail _ (.tail _ (.head _))))) | exact .tail _ (.tail _ (.tail _ (.tail _ (.tail _ (.tail _ (.head _)))))) | exact .tail _ (.tail _ (.tail _ (.tail _ (.tail _ (.tail _ (.tail _ (.head _))))))) | exact .tail _ (.tail _ (.tail _ (.tail _ (.tail _ (.tail _ (.tail _ (.tail _ (.head _)))))))) | exact .tail _ (.tail _ (.tail _ (.tail _ (.tail _ (.tail _ (.tail _ (.tail _ (.tail _ (.head _)))))))))) (by have : Z.1.t.width ≤ 2000000 := hzw; omega)) (fun _ => ?_)
      refine RL.bin rfl rfl rfl (BinV.to (d := true) BinV.eqlS (by simp)) rfl ?_
      refine RL.pickT rfl rfl rfl rfl ?_
      refine RL.move rfl rfl rfl ?_
      refine RL.move rfl rfl rfl ?_
      refine RL.move rfl rfl rfl ?_
      refine RL.bin rfl rfl rfl (BinV.to (d := true) BinV.eqlS (by simp)) rfl ?_
      refine RL.pickT rfl rfl rfl rfl ?_
      refine RL.move rfl rfl rfl ?_
      refine RL.call rfl rfl Try.call14 rfl (lives_spec) (fun _ => ?_)
      refine RL.pickT rfl rfl rfl rfl ?_
      refine RL.assign rfl rfl rfl ?_
      refine RL.nil ?_
      refine NX.seq ?_
      refine TR.ret ?_
      exact NX.ret1 () rfl rfl rfl (fun w hw => ((((hw.drop 0 rfl).drop 0 rfl).drop 0 rfl).drop 0 rfl).facts (fun φ h => by simp [h]))

end Go.Proofs.Ytnolpmigiboanaa
