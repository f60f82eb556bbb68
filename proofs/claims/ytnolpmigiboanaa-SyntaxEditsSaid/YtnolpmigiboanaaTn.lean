/- Walks of the functions of package syntax and of its reference model. Printed by s07.py. -/
import Derived.Test.YtnolpmigiboanaaSm5
import Derived.Test.YtnolpmigiboanaaTm
namespace Go.Proofs.Ytnolpmigiboanaa
open Go.GL Go.GL.Tree
theorem y_bs48_2_0_1 (x0 : Option Addr) (x0n x0c : Nat) (x1 : Option Addr) (x1n x1c : Nat) : BuildSV Try.prog 48 22 2 [(0, .slice x0 x0n x0c), (1, .slice x1 x1n x1c)] [.slice x0 x0n x0c, .slice x1 x1n x1c] := fun w => by kernel_rfl
theorem y_ta25 : tyAgg Try.prog 25 4 = true := by kernel_rfl
theorem y_tb4 : tyBool Try.prog 4 = true := by kernel_rfl
theorem y_tl48 : tySlice Try.prog 48 22 = true := by kernel_rfl
theorem y_ts22 : tyScalar Try.prog 22 = true := by kernel_rfl
theorem y_tz22 : tySize Try.prog 22 1 = true := by kernel_rfl
theorem y_tz25 : tySize Try.prog 25 4 = true := by kernel_rfl
set_option maxHeartbeats 1000000 in
theorem law_replace {t : Tree} {a : Option Addr} {len cap : Nat} {M : List HP} {F : List Fact} {xs ys zs : List Int} {oa ob oc : Option Addr} {ca cb cc : Nat} (ha : ArrF oa (ints xs) ∈ F) (hxs : IntsOk xs) (hb : ArrF ob (ints ys) ∈ F) (hys : IntsOk ys) (hc : ArrF oc (ints zs) ∈ F) (hzc : zs.length ≤ cc) (hzl : zs.length ≤ 9223372036854775807) (ht : TreeF t (nodeV t a len cap) ∈ F) : Ctr Try.prog 7 [.slice oa xs.length ca, .slice ob ys.length cb, .slice oc zs.length cc, nodeV t a len cap] M F Unit (fun _ => .bool true) (fun _ => M) (fun _ => F) := by
  refine Ctr.body Try.func7 rfl rfl ?_
  refine TR.seq ?_
  refine TR.region ?_
  refine RL.boxA rfl rfl rfl (fun b1 => ?_)
  refine RL.assign rfl rfl rfl ?_
  refine RL.nil ?_
  refine NX.seq ?_
  refine TR.seq ?_
  refine TR.region ?_
  refine RL.move rfl rfl rfl ?_
  refine RL.call rfl rfl Try.call12 rfl (Tree_spec ha hxs) (fun N => ?_)
  refine RL.allocA rfl (Try.zeroValue25) rfl (fun b2 => ?_)
  refine RL.storeA 0 rfl rfl rfl rfl y_tz25 rfl rfl ?_
  refine RL.nil ?_
  refine NX.seq ?_
  refine TR.seq ?_
  refine TR.region ?_
  refine RL.loadA 1 rfl rfl rfl y_ta25 rfl ?_
  refine RL.call rfl rfl Try.call13 rfl (tidy_spec (d := 3) (.tail _ ht) (by omega) (by omega) rfl) (fun X => ?_)
  refine RL.allocA rfl (Try.zeroValue25) rfl (fun b3 => ?_)
  refine RL.storeA 0 rfl rfl rfl rfl y_tz25 rfl rfl ?_
  refine RL.nil ?_
  refine NX.seq ?_
  refine TR.seq ?_
  refine TR.region ?_
  refine RL.loadA 1 rfl rfl rfl y_ta25 rfl ?_
  refine RL.move rfl rfl rfl ?_
  refine RL.call rfl rfl Try.call15 rfl (route_spec N.2 (by omega) (.tail _ (.head _)) (.tail _ (.tail _ hb)) hys) (fun R => ?_)
  refine RL.move rfl rfl rfl ?_
  refine RL.call rfl rfl Try.call17 rfl (Ints_spec (m := 4) (.tail _ (.tail _ (.tail _ hc))) hzc hzl (by omega)) (fun Z => ?_)
  refine RL.buildSlice rfl rfl (y_bs48_2_0_1 _ _ _ _ _ _) rfl (fun b4 => ?_)
  refine RL.assign rfl rfl rfl ?_
  refine RL.nil ?_
  refine NX.seq ?_
  refine TR.seq ?_
  refine TR.seq ?_
  refine TR.region ?_
  refine RL.assign rfl rfl rfl ?_
  refine RL.nil ?_
  refine NX.seq ?_
  refine TR.block ?_
  refine TR.loopP (ι := Nat) (fun k => k ≤ 2) (fun k => [(7, .pointer (some ⟨b1, 0, none⟩)), (8, .bool false), (9, .pointer (some ⟨b2, 0, none⟩)), (10, .pointer (some ⟨b3, 0, none⟩)), (11, .slice (some ⟨b4, 0, none⟩) 2 2), (12, I k)]) (fun _ => Box b4 22 [.slice R.1.oa R.1.ps.length R.1.oc, .slice Z.1.1 (zs.take 4).length Z.1.2] :: Box b3 25 X.1.c :: Box b2 25 N.1.c :: Box b1 25 (nodeC t a len cap) :: M) (fun _ => ArrF Z.1.1 (ints (zs.take 4)) :: ArrF R.1.oa (ints R.1.ps) :: TreeF X.1.t X.1.v :: TreeF N.1.t N.1.v :: F) (fun k => 2 - k) 0 (Nat.zero_le _) ⟨rfl, rfl, rfl, rfl, rfl, rfl, trivial⟩ (fun w hw => hw) (fun k hk => ?_)
  refine TR.seq ?_
  refine TR.seq ?_
  refine TR.region ?_
  refine RL.move rfl rfl rfl ?_
  refine RL.bin rfl rfl rfl BinV.lss rfl ?_
  refine RL.nil ?_
  refine NX.seq ?_
  refine TR.cond rfl (fun h5 => ?_) (fun h5 => ?_)
  · skip
    have hk2 : k < 2 := by have := of_decide_eq_true h5; omega
    obtain ⟨y, hy, hyF, hyl, hyc⟩ : ∃ y : RowI, ([.slice R.1.oa R.1.ps.length R.1.oc, .slice Z.1.1 (zs.take 4).length Z.1.2] : List Value)[0 + (k : Int).toNat * 1]? = some (.slice y.oa y.ps.length y.oc) ∧ ArrF y.oa (ints y.ps) ∈ (ArrF Z.1.1 (ints (zs.take 4)) :: ArrF R.1.oa (ints R.1.ps) :: TreeF X.1.t X.1.v :: TreeF N.1.t N.1.v :: F) ∧ y.ps.length ≤ 4 ∧ y.ps.length ≤ y.oc := by
      rcases (show k = 0 ∨ k = 1 by omega) with rfl | rfl
      · exact ⟨R.1, rfl, .tail _ (.head _), R.2.1, R.2.2⟩
      · exact ⟨⟨Z.1.1, Z.1.2, zs.take 4⟩, rfl, .head _, by simp; omega, Z.2⟩
    refine TR.skip ?_
    refine NX.seq ?_
    refine TR.seq ?_
    refine TR.block ?_
    refine TR.seq ?_
    refine TR.sub (E' := [(7, _), (8, _), (9, _), (10, _), (11, _), (12, _), (30, _), (31, _)]) ⟨rfl, rfl, rfl, rfl, rfl, rfl, rfl, rfl, trivial⟩ ?_
    refine TR.draw mixed ?_
    apply AR.more [(0, _), (1, _), (2, _), (3, _), (4, _), (5, _)]
    refine AR.effs [0, 1, 2, 3, 4, 5] [6, 10] [0, 1, 2, 3, 4, 5, 6, 7, 8, 9, 10, 11, 12] ⟨QOne.yes rfl rfl rfl (PV.loadA 2 rfl rfl y_ta25), QOne.yes rfl rfl rfl (PV.move rfl), QOne.yes rfl rfl rfl (PV.move rfl), QOne.yes rfl rfl rfl (PV.indexAddr y_tl48 y_tz22 rfl rfl (by omega) (by omega)), QOne.yes rfl rfl rfl (PV.load1 0 y_ts22 rfl rfl hy), QOne.yes rfl rfl rfl (PV.loadA 1 rfl rfl y_ta25), trivial⟩ rfl rfl rfl rfl ⟨EOne.of rfl rfl rfl (EV.call rfl Try.call24 (replace_spec N.2 (by omega) (by first | exact .head _ | exact .tail _ (.head _) | exact .tail _ (.tail _ (.head _)) | exact .tail _ (.tail _ (.tail _ (.head _))) | exact .tail _ (.tail _ (.tail _ (.tail _ (.head _)))) | exact .tail _ (.tail _ (.tail _ (.tail _ (.tail _ (.head _))))) | exact .tail _ (.tail _ (.tail _ (.tail _ (.tail _ (.tail _ (.head _)))))) | exact .tail _ (.tail _ (.tail _ (.tail _ (.tail _ (.tail _ (.tail _ (.head _))))))) | exact .tail _ (.tail _ (.tail _ (.tail _ (.tail _ (.tail _ (.tail _ (.tail _ (.head _)))))))) | exact .tail _ (.tail _ (.tail _ (.tail _ (.tail _ (.tail _ (.tail _ (.tail _ (.tail _ (.head _)))))))))) X.2 (by omega) (by first | exact .head _ | exact .tail _ (.head _) | exact .tail _ (.tail _ (.head _)) | exact .tail _ (.tail _ (.tail _ (.head _))) | exact .tail _ (.tail _ (.tail _ (.tail _ (.head _)))) | exact .tail _ (.tail _ (.tail _ (.tail _ (.tail _ (.head _))))) | exact .tail _ (.tail _ (.tail _ (.tail _ (.tail _ (.tail _ (.head _)))))) | exact .tail _ (.tail _ (.tail _ (.tail _ (.tail _ (.tail _ (.tail _ (.head _))))))) | exact .tail _ (.tail _ (.tail _ (.tail _ (.tail _ (.tail _ (.tail _ (.tail _ (.head _)))))))) | exact .tail _ (.tail _ (.tail _ (.tail _ (.tail _ (.tail _ (.tail _ (.tail _ (.tail _ (.head _)))))))))) (ca := y.oc) (ps := y.ps) (by first | exact hyF | exact .tail _ hyF | exact .tail _ (.tail _ hyF) | exact .tail _ (.tail _ (.tail _ hyF)) | exact .tail _ (.tail _ (.tail _ (.tail _ hyF)))) (by omega))) (fun A => ?_), EOne.of rfl rfl rfl (EV.allocA (Try.zeroValue25)) (fun b6 => ?_), trivial⟩
    · skip
      refine AR.done [0, 4, 5, 3, 1, 2] rfl ?_
      apply AR.more [(7, _), (8, _), (9, _)]
      refine AR.eff [7, 8, 9] 10 [0, 1, 2, 3, 4, 5, 6, 7, 8, 9, 10, 11, 12] ⟨QOne.yes rfl rfl rfl (PV.move rfl), QOne.yes rfl rfl rfl (PV.extract rfl rfl), QOne.yes rfl rfl rfl (PV.extract rfl rfl), trivial⟩ rfl rfl rfl rfl rfl rfl rfl (EV.allocA (Try.zeroValue25)) (fun b7 => ?_)
      refine AR.eff [7, 8, 9] 11 [0, 1, 2, 3, 4, 5, 6, 7, 8, 9, 10, 11, 12] ⟨QOne.yes rfl rfl rfl (PV.move rfl), QOne.yes rfl rfl rfl (PV.extract rfl rfl), QOne.yes rfl rfl rfl (PV.extract rfl rfl), trivial⟩ rfl rfl rfl rfl rfl rfl rfl (EV.storeA 0 rfl rfl rfl y_tz25 rfl rfl) (fun _ => ?_)
      refine AR.done [8, 7] rfl ?_
      apply AR.more [(12, _)]
      refine AR.last [9, 12] [0, 1, 2, 3, 4, 5, 6, 7, 8, 9, 10, 11, 12] ⟨QOne.yes rfl rfl rfl (PV.extract rfl rfl), QOne.yes rfl rfl rfl (PV.assign rfl), trivial⟩ rfl rfl rfl ?_
      refine NX.sub (E' := [(7, _), (8, _), (9, _), (10, _), (11, _), (12, _), (13, _), (14, _), (30, _), (31, _)]) ⟨rfl, rfl, rfl, rfl, rfl, rfl, rfl, rfl, rfl, rfl, trivial⟩ ?_
      refine NX.seq ?_
      refine TR.seq ?_
      refine TR.sub (E' := [(7, _), (8, _), (9, _), (10, _), (11, _), (12, _), (13, _), (14, _), (30, _), (31, _)]) ⟨rfl, rfl, rfl, rfl, rfl, rfl, rfl, rfl, rfl, rfl, trivial⟩ ?_
      refine TR.draw mixed ?_
      apply AR.more [(0, _), (1, _), (2, _), (3, _), (4, _), (5, _)]
      refine AR.effs [0, 1, 2, 3, 4, 5] [6, 10] [0, 1, 2, 3, 4, 5, 6, 7, 8, 9, 10, 11, 12] ⟨QOne.yes rfl rfl rfl (PV.loadA 3 rfl rfl y_ta25), QOne.yes rfl rfl rfl (PV.move rfl), QOne.yes rfl rfl rfl (PV.move rfl), QOne.yes rfl rfl rfl (PV.indexAddr y_tl48 y_tz22 rfl rfl (by omega) (by omega)), QOne.yes rfl rfl rfl (PV.load1 1 y_ts22 rfl rfl hy), QOne.yes rfl rfl rfl (PV.loadA 2 rfl rfl y_ta25), trivial⟩ rfl rfl rfl rfl ⟨EOne.of rfl rfl rfl (EV.call rfl Try.call25 (refReplace_spec N.2 (by omega) (by first | exact .head _ | exact .tail _ (.head _) | exact .tail _ (.tail _ (.head _)) | exact .tail _ (.tail _ (.tail _ (.head _))) | exact .tail _ (.tail _ (.tail _ (.tail _ (.head _)))) | exact .tail _ (.tail _ (.tail _ (.tail _ (.tail _ (.head _))))) | exact .tail _ (.tail _ (.tail _ (.tail _ (.tail _ (.tail _ (.head _)))))) | exact .tail _ (.tail _ (.tail _ (.tail _ (.tail _ (.tail _ (.tail _ (.head _))))))) | exact .tail _ (.tail _ (.tail _ (.tail _ (.tail _ (.tail _ (.tail _ (.tail _ (.head _)))))))) | exact .tail _ (.tail _ (.tail _ (.tail _ (.tail _ (.tail _ (.tail _ (.tail _ (.tail _ (.head _)))))))))) (by first | exact .head _ | exact .tail _ (.head _) | exact .tail _ (.tail _ (.head _)) | exact .tail _ (.tail _ (.tail _ (.head _))) | exact .tail _ (.tail _ (.tail _ (.tail _ (.head _)))) | exact .tail _ (.tail _ (.tail _ (.tail _ (.tail _ (.head _))))) | exact .tail _ (.tail _ (.tail _ (.tail _ (.tail _ (.tail _ (.head _)))))) | exact .tail _ (.tail _ (.tail _ (.tail _ (.tail _ (.tail _ (.tail _ (.head _))))))) | exact .tail _ (.tail _ (.tail _ (.tail _ (.tail _ (.tail _ (.tail _ (.tail _ (.head _)))))))) | exact .tail _ (.tail _ (.tail _ (.tail _ (.tail _ (.tail _ (.tail _ (.tail _ (.tail _ (.head _)))))))))) (by first | exact hyF | exact .tail _ hyF | exact .tail _ (.tail _ hyF) | exact .tail _ (.tail _ (.tail _ hyF)) | exact .tail _ (.tail _ (.tail _ (.tail _ hyF)))) hyc (by omega))) (fun B => ?_), EOne.of rfl rfl rfl (EV.allocA (Try.zeroValue25)) (fun b8 => ?_), trivial⟩
      · skip
        refine AR.done [0, 4, 5, 3, 1, 2] rfl ?_
        apply AR.more [(7, _), (8, _), (9, _)]
        refine AR.eff [7, 8, 9] 10 [0, 1, 2, 3, 4, 5, 6, 7, 8, 9, 10, 11, 12] ⟨QOne.yes rfl rfl rfl (PV.move rfl), QOne.yes rfl rfl rfl (PV.extract rfl rfl), QOne.yes rfl rfl rfl (PV.extract rfl rfl), trivial⟩ rfl rfl rfl rfl rfl rfl rfl (EV.allocA (Try.zeroValue25)) (fun b9 => ?_)
        refine AR.eff [7, 8, 9] 11 [0, 1, 2, 3, 4, 5, 6, 7, 8, 9, 10, 11, 12] ⟨QOne.yes rfl rfl rfl (PV.move rfl), QOne.yes rfl rfl rfl (PV.extract rfl rfl), QOne.yes rfl rfl rfl (PV.extract rfl rfl), trivial⟩ rfl rfl rfl rfl rfl rfl rfl (EV.storeA 0 rfl rfl rfl y_tz25 rfl rfl) (fun _ => ?_)
        refine AR.done [8, 7] rfl ?_
        apply AR.more [(12, _)]
        refine AR.last [9, 12] [0, 1, 2, 3, 4, 5, 6, 7, 8, 9, 10, 11, 12] ⟨QOne.yes rfl rfl rfl (PV.extract rfl rfl), QOne.yes rfl rfl rfl (PV.assign rfl), trivial⟩ rfl rfl rfl ?_
        refine NX.sub (E' := [(7, _), (8, _), (9, _), (10, _), (11, _), (12, _), (13, _), (14, _), (15, _), (16, _), (30, _), (31, _)]) ⟨rfl, rfl, rfl, rfl, rfl, rfl, rfl, rfl, rfl, rfl, rfl, rfl, trivial⟩ ?_
        refine NX.seq ?_
        refine TR.seq ?_
        refine TR.seq ?_
        refine TR.region ?_
        have hsA : Small 7 A.1.t := by rw [A.2]; exact Small.replR N.2 X.2 hyl (by omega) (by omega)
        refine RL.move rfl rfl rfl ?_
        refine RL.move rfl rfl rfl ?_
        refine RL.bin rfl rfl rfl (BinV.to (d := false) (BinV.neqB y_tb4) (by simp)) rfl ?_
        refine RL.move rfl rfl rfl ?_
        refine RL.loadA 1 rfl rfl rfl y_ta25 rfl ?_
        refine RL.loadA 0 rfl rfl rfl y_ta25 rfl ?_
        refine RL.call rfl rfl Try.call26 rfl (same_of A.2 B.2 (Small.replR N.2 X.2 hyl (m := 7) (by omega) (by omega)) (by omega) (by first | exact .head _ | exact .tail _ (.head _) | exact .tail _ (.tail _ (.head _)) | exact .tail _ (.tail _ (.tail _ (.head _))) | exact .tail _ (.tail _ (.tail _ (.tail _ (.head _)))) | exact .tail _ (.tail _ (.tail _ (.tail _ (.tail _ (.head _))))) | exact .tail _ (.tail _ (.tail _ (.tail _ (.tail _ (.tail _ (.head _)))))) | exact .tail _ (.tail _ (.tail _ (.tail _ (.tail _ (.tail _ (.tail _ (.head _))))))) | exact .tail _ (.tail _ (.tail _ (.tail _ (.tail _ (.tail _ (.tail _ (.tail _ (.head _)))))))) | exact .tail _ (.tail _ (.tail _ (.tail _ (.tail _ (.tail _ (.tail _ (.tail _ (.tail _ (.head _)))))))))) (by first | exact .head _ | exact .tail _ (.head _) | exact .tail _ (.tail _ (.head _)) | exact .tail _ (.tail _ (.tail _ (.head _))) | exact .tail _ (.tail _ (.tail _ (.tail _ (.head _)))) | exact .tail _ (.tail _ (.tail _ (.tail _ (.tail _ (.head _))))) | exact .tail _ (.tail _ (.tail _ (.tail _ (.tail _ (.tail _ (.head _)))))) | exact .tail _ (.tail _ (.tail _ (.tail _ (.tail _ (.tail _ (.tail _ (.head _))))))) | exact .tail _ (.tail _ (.tail _ (.tail _ (.tail _ (.tail _ (.tail _ (.tail _ (.head _)))))))) | exact .tail _ (.tail _ (.tail _ (.tail _ (.tail _ (.tail _ (.tail _ (.tail _ (.tail _ (.head _))))))))))) (fun _ => ?_)
        refine RL.not rfl rfl rfl ?_
        refine RL.pickF rfl rfl rfl rfl ?_
        refine RL.nil ?_
        refine NX.seq ?_
        refine TR.condF rfl ?_
        refine TR.skip ?_
        refine NX.seq ?_
        refine TR.seq ?_
        refine TR.sub (E' := [(7, _), (8, _), (9, _), (10, _), (11, _), (12, _), (13, _), (14, _), (15, _), (16, _), (30, _), (31, _), (54, _), (55, _), (56, _), (57, _), (58, _), (59, _), (60, _), (61, _), (62, _)]) ⟨rfl, rfl, rfl, rfl, rfl, rfl, rfl, rfl, rfl, rfl, rfl, rfl, rfl, rfl, rfl, rfl, rfl, rfl, rfl, rfl, rfl, trivial⟩ ?_
        refine TR.draw mixed ?_
        apply AR.more [(0, _), (1, _), (2, _), (3, _), (4, _)]
        refine AR.effs [0, 1, 2, 3, 4] [5, 10] [0, 1, 2, 3, 4, 5, 6, 7, 8, 9, 10, 11, 12, 13] ⟨QOne.yes rfl rfl rfl (PV.loadA 1 rfl rfl y_ta25), QOne.yes rfl rfl rfl (PV.move rfl), QOne.yes rfl rfl rfl (PV.move rfl), QOne.yes rfl rfl rfl (PV.indexAddr y_tl48 y_tz22 rfl rfl (by omega) (by omega)), QOne.yes rfl rfl rfl (PV.load1 2 y_ts22 rfl rfl hy), trivial⟩ rfl rfl rfl rfl ⟨EOne.of rfl rfl rfl (EV.call rfl Try.call22 (get_spec (d := 7) hsA (by omega) (by first | exact .head _ | exact .tail _ (.head _) | exact .tail _ (.tail _ (.head _)) | exact .tail _ (.tail _ (.tail _ (.head _))) | exact .tail _ (.tail _ (.tail _ (.tail _ (.head _)))) | exact .tail _ (.tail _ (.tail _ (.tail _ (.tail _ (.head _))))) | exact .tail _ (.tail _ (.tail _ (.tail _ (.tail _ (.tail _ (.head _)))))) | exact .tail _ (.tail _ (.tail _ (.tail _ (.tail _ (.tail _ (.tail _ (.head _))))))) | exact .tail _ (.tail _ (.tail _ (.tail _ (.tail _ (.tail _ (.tail _ (.tail _ (.head _)))))))) | exact .tail _ (.tail _ (.tail _ (.tail _ (.tail _ (.tail _ (.tail _ (.tail _ (.tail _ (.head _)))))))))) (ca := y.oc) (ps := y.ps) (by first | exact hyF | exact .tail _ hyF | exact .tail _ (.tail _ hyF) | exact .tail _ (.tail _ (.tail _ hyF)) | exact .tail _ (.tail _ (.tail _ (.tail _ hyF)))) (by omega))) (fun C => ?_), EOne.of rfl rfl rfl (EV.allocA (Try.zeroValue25)) (fun b10 => ?_), trivial⟩
        · skip
          refine AR.done [0, 4, 3, 1, 2] rfl ?_
          apply AR.more [(6, _), (7, _), (8, _), (9, _)]
          refine AR.eff [6, 7, 8, 9] 10 [0, 1, 2, 3, 4, 5, 6, 7, 8, 9, 10, 11, 12, 13] ⟨QOne.yes rfl rfl rfl (PV.move rfl), QOne.yes rfl rfl rfl (PV.extract rfl rfl), QOne.yes rfl rfl rfl (PV.extract rfl rfl), QOne.yes rfl rfl rfl (PV.extract rfl rfl), trivial⟩ rfl rfl rfl rfl rfl rfl rfl (EV.allocA (Try.zeroValue25)) (fun b11 => ?_)
          refine AR.eff [6, 7, 8, 9] 11 [0, 1, 2, 3, 4, 5, 6, 7, 8, 9, 10, 11, 12, 13] ⟨QOne.yes rfl rfl rfl (PV.move rfl), QOne.yes rfl rfl rfl (PV.extract rfl rfl), QOne.yes rfl rfl rfl (PV.extract rfl rfl), QOne.yes rfl rfl rfl (PV.extract rfl rfl), trivial⟩ rfl rfl rfl rfl rfl rfl rfl (EV.storeA 0 rfl rfl rfl y_tz25 rfl rfl) (fun _ => ?_)
          refine AR.done [7, 6] rfl ?_
          apply AR.more [(12, _), (13, _)]
          refine AR.last [8, 9, 12, 13] [0, 1, 2, 3, 4, 5, 6, 7, 8, 9, 10, 11, 12, 13] ⟨QOne.yes rfl rfl rfl (PV.extract rfl rfl), QOne.yes rfl rfl rfl (PV.extract rfl rfl), QOne.yes rfl rfl rfl (PV.assign rfl), QOne.yes rfl rfl rfl (PV.assign rfl), trivial⟩ rfl rfl rfl ?_
          refine NX.sub (E' := [(7, _), (8, _), (9, _), (10, _), (11, _), (12, _), (13, _), (14, _), (15, _), (16, _), (17, _), (19, _), (30, _), (31, _), (54, _), (55, _), (56, _), (57, _), (58, _), (59, _), (60, _), (61, _), (62, _)]) ⟨rfl, rfl, rfl, rfl, rfl, rfl, rfl, rfl, rfl, rfl, rfl, rfl, rfl, rfl, rfl, rfl, rfl, rfl, rfl, rfl, rfl, rfl, rfl, trivial⟩ ?_
          refine NX.seq ?_
          refine TR.seq ?_
          refine TR.region ?_
          refine RL.move rfl rfl rfl ?_
          refine RL.move rfl rfl rfl ?_
          refine RL.part (fun h12 => ?_) (fun h12 => ?_)
          · skip
            have hgot : (A.1.t.getR y.ps).1 = X.1.t ∧ (A.1.t.getR y.ps).2.2 = true := by rw [A.2]; exact getR_replR h12
            refine RL.move rfl rfl rfl ?_
            refine RL.not (b := true) rfl (congrArg (fun b => some (Value.bool b)) hgot.2) rfl ?_
            refine RL.move rfl rfl rfl ?_
            refine RL.loadA 0 rfl rfl rfl y_ta25 rfl ?_
            refine RL.loadA 4 rfl rfl rfl y_ta25 rfl ?_
            refine RL.call rfl rfl Try.call26 rfl (same_of (s := X.1.t) (C.2.trans hgot.1) rfl X.2 (by omega) (by first | exact .head _ | exact .tail _ (.head _) | exact .tail _ (.tail _ (.head _)) | exact .tail _ (.tail _ (.tail _ (.head _))) | exact .tail _ (.tail _ (.tail _ (.tail _ (.head _)))) | exact .tail _ (.tail _ (.tail _ (.tail _ (.tail _ (.head _))))) | exact .tail _ (.tail _ (.tail _ (.tail _ (.tail _ (.tail _ (.head _)))))) | exact .tail _ (.tail _ (.tail _ (.tail _ (.tail _ (.tail _ (.tail _ (.head _))))))) | exact .tail _ (.tail _ (.tail _ (.tail _ (.tail _ (.tail _ (.tail _ (.tail _ (.head _)))))))) | exact .tail _ (.tail _ (.tail _ (.tail _ (.tail _ (.tail _ (.tail _ (.tail _ (.tail _ (.head _)))))))))) (by first | exact .head _ | exact .tail _ (.head _) | exact .tail _ (.tail _ (.head _)) | exact .tail _ (.tail _ (.tail _ (.head _))) | exact .tail _ (.tail _ (.tail _ (.tail _ (.head _)))) | exact .tail _ (.tail _ (.tail _ (.tail _ (.tail _ (.head _))))) | exact .tail _ (.tail _ (.tail _ (.tail _ (.tail _ (.tail _ (.head _)))))) | exact .tail _ (.tail _ (.tail _ (.tail _ (.tail _ (.tail _ (.tail _ (.head _))))))) | exact .tail _ (.tail _ (.tail _ (.tail _ (.tail _ (.tail _ (.tail _ (.tail _ (.head _)))))))) | exact .tail _ (.tail _ (.tail _ (.tail _ (.tail _ (.tail _ (.tail _ (.tail _ (.tail _ (.head _))))))))))) (fun _ => ?_)
            refine RL.not rfl rfl rfl ?_
            refine RL.pickF rfl rfl rfl rfl ?_
            refine RL.pickT rfl rfl rfl rfl ?_
            refine RL.nil ?_
            refine NX.seq ?_
            refine TR.condF rfl ?_
            refine TR.skip ?_
            refine NX.off ?_
            refine NX.seq ?_
            refine TR.region ?_
            refine RL.move rfl rfl rfl ?_
            refine RL.bin rfl rfl rfl (BinV.add _ rfl (by omega) (by omega)) rfl ?_
            refine RL.assign rfl rfl rfl ?_
            refine RL.nil ?_
            refine NX.roundP (k + 1) (by omega) (by omega) ⟨rfl, rfl, rfl, rfl, rfl, rfl, trivial⟩ (fun w hw => (((hw.drop 0 rfl).drop 0 rfl).drop 0 rfl).facts (fun φ h => .tail _ (.tail _ (.tail _ (h)))))
          · skip
            refine RL.skip rfl rfl rfl ?_
            refine RL.skip rfl rfl rfl ?_
            refine RL.skip rfl rfl rfl ?_
            refine RL.skip rfl rfl rfl ?_
            refine RL.skip rfl rfl rfl ?_
            refine RL.skip rfl rfl rfl ?_
            refine RL.skip rfl rfl rfl ?_
            refine RL.skip rfl rfl rfl ?_
            refine RL.pickF rfl rfl rfl rfl ?_
            refine RL.nil ?_
            refine NX.seq ?_
            refine TR.condF rfl ?_
            refine TR.skip ?_
            refine NX.off ?_
            refine NX.seq ?_
            refine TR.region ?_
            refine RL.move rfl rfl rfl ?_
            refine RL.bin rfl rfl rfl (BinV.add _ rfl (by omega) (by omega)) rfl ?_
            refine RL.assign rfl rfl rfl ?_
            refine RL.nil ?_
            refine NX.roundP (k + 1) (by omega) (by omega) ⟨rfl, rfl, rfl, rfl, rfl, rfl, trivial⟩ (fun w hw => (((hw.drop 0 rfl).drop 0 rfl).drop 0 rfl).facts (fun φ h => .tail _ (.tail _ (.tail _ (h)))))
        · skip
          refine AR.eff [0, 1, 2, 3, 4] 5 [0, 1, 2, 3, 4, 5, 6, 7, 8, 9, 10, 11, 12, 13] ⟨QOne.yes rfl rfl rfl (PV.loadA 2 rfl rfl y_ta25), QOne.yes rfl rfl rfl (PV.move rfl), QOne.yes rfl rfl rfl (PV.move rfl), QOne.yes rfl rfl rfl (PV.indexAddr y_tl48 y_tz22 rfl rfl (by omega) (by omega)), QOne.yes rfl rfl rfl (PV.load1 3 y_ts22 rfl rfl hy), trivial⟩ rfl rfl rfl rfl rfl rfl rfl (EV.call rfl Try.call22 (get_spec (d := 7) hsA (by omega) (by first | exact .head _ | exact .tail _ (.head _) | exact .tail _ (.tail _ (.head _)) | exact .tail _ (.tail _ (.tail _ (.head _))) | exact .tail _ (.tail _ (.tail _ (.tail _ (.head _)))) | exact .tail _ (.tail _ (.tail _ (.tail _ (.tail _ (.head _))))) | exact .tail _ (.tail _ (.tail _ (.tail _ (.tail _ (.tail _ (.head _)))))) | exact .tail _ (.tail _ (.tail _ (.tail _ (.tail _ (.tail _ (.tail _ (.head _))))))) | exact .tail _ (.tail _ (.tail _ (.tail _ (.tail _ (.tail _ (.tail _ (.tail _ (.head _)))))))) | exact .tail _ (.tail _ (.tail _ (.tail _ (.tail _ (.tail _ (.tail _ (.tail _ (.tail _ (.head _)))))))))) (ca := y.oc) (ps := y.ps) (by first | exact hyF | exact .tail _ hyF | exact .tail _ (.tail _ hyF) | exact .tail _ (.tail _ (.tail _ hyF)) | exact .tail _ (.tail _ (.tail _ (.tail _ hyF)))) (by omega))) (fun C => ?_)
          refine AR.done [0, 4, 3, 1, 2] rfl ?_
          apply AR.more [(6, _), (7, _), (8, _), (9, _)]
          refine AR.eff [6, 7, 8, 9] 11 [0, 1, 2, 3, 4, 5, 6, 7, 8, 9, 10, 11, 12, 13] ⟨QOne.yes rfl rfl rfl (PV.move rfl), QOne.yes rfl rfl rfl (PV.extract rfl rfl), QOne.yes rfl rfl rfl (PV.extract rfl rfl), QOne.yes rfl rfl rfl (PV.extract rfl rfl), trivial⟩ rfl rfl rfl rfl rfl rfl rfl (EV.storeA 0 rfl rfl rfl y_tz25 rfl rfl) (fun _ => ?_)
          refine AR.done [7, 6] rfl ?_
          apply AR.more [(12, _), (13, _)]
          refine AR.last [8, 9, 12, 13] [0, 1, 2, 3, 4, 5, 6, 7, 8, 9, 10, 11, 12, 13] ⟨QOne.yes rfl rfl rfl (PV.extract rfl rfl), QOne.yes rfl rfl rfl (PV.extract rfl rfl), QOne.yes rfl rfl rfl (PV.assign rfl), QOne.yes rfl rfl rfl (PV.assign rfl), trivial⟩ rfl rfl rfl ?_
          refine NX.sub (E' := [(7, _), (8, _), (9, _), (10, _), (11, _), (12, _), (13, _), (14, _), (15, _), (16, _), (17, _), (19, _), (30, _), (31, _), (54, _), (55, _), (56, _), (57, _), (58, _), (59, _), (60, _), (61, _), (62, _)]) ⟨rfl, rfl, rfl, rfl, rfl, rfl, rfl, rfl, rfl, rfl, rfl, rfl, rfl, rfl, rfl, rfl, rfl, rfl, rfl, rfl, rfl, rfl, rfl, trivial⟩ ?_
          refine NX.seq ?_
          refine TR.seq ?_
          refine TR.region ?_
          refine RL.move rfl rfl rfl ?_
          refine RL.move rfl rfl rfl ?_
          refine RL.part (fun h13 => ?_) (fun h13 => ?_)
          · skip
            have hgot : (A.1.t.getR y.ps).1 = X.1.t ∧ (A.1.t.getR y.ps).2.2 = true := by rw [A.2]; exact getR_replR h13
            refine RL.move rfl rfl rfl ?_
            refine RL.not (b := true) rfl (congrArg (fun b => some (Value.bool b)) hgot.2) rfl ?_
            refine RL.move rfl rfl rfl ?_
            refine RL.loadA 0 rfl rfl rfl y_ta25 rfl ?_
            refine RL.loadA 4 rfl rfl rfl y_ta25 rfl ?_
            refine RL.call rfl rfl Try.call26 rfl (same_of (s := X.1.t) (C.2.trans hgot.1) rfl X.2 (by omega) (by first | exact .head _ | exact .tail _ (.head _) | exact .tail _ (.tail _ (.head _)) | exact .tail _ (.tail _ (.tail _ (.head _))) | exact .tail _ (.tail _ (.tail _ (.tail _ (.head _)))) | exact .tail _ (.tail _ (.tail _ (.tail _ (.tail _ (.head _))))) | exact .tail _ (.tail _ (.tail _ (.tail _ (.tail _ (.tail _ (.head _)))))) | exact .tail _ (.tail _ (.tail _ (.tail _ (.tail _ (.tail _ (.tail _ (.head _))))))) | exact .tail _ (.tail _ (.tail _ (.tail _ (.tail _ (.tail _ (.tail _ (.tail _ (.head _)))))))) | exact .tail _ (.tail _ (.tail _ (.tail _ (.tail _ (.tail _ (.tail _ (.tail _ (.tail _ (.head _)))))))))) (by first | exact .head _ | exact .tail _ (.head _) | exact .tail _ (.tail _ (.head _)) | exact .tail _ (.tail _ (.tail _ (.head _))) | exact .tail _ (.tail _ (.tail _ (.tail _ (.head _)))) | exact .tail _ (.tail _ (.tail _ (.tail _ (.tail _ (.head _))))) | exact .tail _ (.tail _ (.tail _ (.tail _ (.tail _ (.tail _ (.head _)))))) | exact .tail _ (.tail _ (.tail _ (.tail _ (.tail _ (.tail _ (.tail _ (.head _))))))) | exact .tail _ (.tail _ (.tail _ (.tail _ (.tail _ (.tail _ (.tail _ (.tail _ (.head _)))))))) | exact .tail _ (.tail _ (.tail _ (.tail _ (.tail _ (.tail _ (.tail _ (.tail _ (.tail _ (.head _))))))))))) (fun _ => ?_)
            refine RL.not rfl rfl rfl ?_
            refine RL.pickF rfl rfl rfl rfl ?_
            refine RL.pickT rfl rfl rfl rfl ?_
            refine RL.nil ?_
            refine NX.seq ?_
            refine TR.condF rfl ?_
            refine TR.skip ?_
            refine NX.off ?_
            refine NX.seq ?_
            refine TR.region ?_
            refine RL.move rfl rfl rfl ?_
            refine RL.bin rfl rfl rfl (BinV.add _ rfl (by omega) (by omega)) rfl ?_
            refine RL.assign rfl rfl rfl ?_
            refine RL.nil ?_
            refine NX.roundP (k + 1) (by omega) (by omega) ⟨rfl, rfl, rfl, rfl, rfl, rfl, trivial⟩ (fun w hw => (((hw.drop 0 rfl).drop 0 rfl).drop 0 rfl).facts (fun φ h => .tail _ (.tail _ (.tail _ (h)))))
          · skip
            refine RL.skip rfl rfl rfl ?_
            refine RL.skip rfl rfl rfl ?_
            refine RL.skip rfl rfl rfl ?_
            refine RL.skip rfl rfl rfl ?_
            refine RL.skip rfl rfl rfl ?_
            refine RL.skip rfl rfl rfl ?_
            refine RL.skip rfl rfl rfl ?_
            refine RL.skip rfl rfl rfl ?_
            refine RL.pickF rfl rfl rfl rfl ?_
            refine RL.nil ?_
            refine NX.seq ?_
            refine TR.condF rfl ?_
            refine TR.skip ?_
            refine NX.off ?_
            refine NX.seq ?_
            refine TR.region ?_
            refine RL.move rfl rfl rfl ?_
            refine RL.bin rfl rfl rfl (BinV.add _ rfl (by omega) (by omega)) rfl ?_
            refine RL.assign rfl rfl rfl ?_
            refine RL.nil ?_
            refine NX.roundP (k + 1) (by omega) (by omega) ⟨rfl, rfl, rfl, rfl, rfl, rfl, trivial⟩ (fun w hw => (((hw.drop 0 rfl).drop 0 rfl).drop 0 rfl).facts (fun φ h => .tail _ (.tail _ (.tail _ (h)))))
      · skip
        refine AR.eff [0, 1, 2, 3, 4, 5] 6 [0, 1, 2, 3, 4, 5, 6, 7, 8, 9, 10, 11, 12] ⟨QOne.yes rfl rfl rfl (PV.loadA 4 rfl rfl y_ta25), QOne.yes rfl rfl rfl (PV.move rfl), QOne.yes rfl rfl rfl (PV.move rfl), QOne.yes rfl rfl rfl (PV.indexAddr y_tl48 y_tz22 rfl rfl (by omega) (by omega)), QOne.yes rfl rfl rfl (PV.load1 2 y_ts22 rfl rfl hy), QOne.yes rfl rfl rfl (PV.loadA 3 rfl rfl y_ta25), trivial⟩ rfl rfl rfl rfl rfl rfl rfl (EV.call rfl Try.call25 (refReplace_spec N.2 (by omega) (by first | exact .head _ | exact .tail _ (.head _) | exact .tail _ (.tail _ (.head _)) | exact .tail _ (.tail _ (.tail _ (.head _))) | exact .tail _ (.tail _ (.tail _ (.tail _ (.head _)))) | exact .tail _ (.tail _ (.tail _ (.tail _ (.tail _ (.head _))))) | exact .tail _ (.tail _ (.tail _ (.tail _ (.tail _ (.tail _ (.head _)))))) | exact .tail _ (.tail _ (.tail _ (.tail _ (.tail _ (.tail _ (.tail _ (.head _))))))) | exact .tail _ (.tail _ (.tail _ (.tail _ (.tail _ (.tail _ (.tail _ (.tail _ (.head _)))))))) | exact .tail _ (.tail _ (.tail _ (.tail _ (.tail _ (.tail _ (.tail _ (.tail _ (.tail _ (.head _)))))))))) (by first | exact .head _ | exact .tail _ (.head _) | exact .tail _ (.tail _ (.head _)) | exact .tail _ (.tail _ (.tail _ (.head _))) | exact .tail _ (.tail _ (.tail _ (.tail _ (.head _)))) | exact .tail _ (.tail _ (.tail _ (.tail _ (.tail _ (.head _))))) | exact .tail _ (.tail _ (.tail _ (.tail _ (.tail _ (.tail _ (.head _)))))) | exact .tail _ (.tail _ (.tail _ (.tail _ (.tail _ (.tail _ (.tail _ (.head _))))))) | exact .tail _ (.tail _ (.tail _ (.tail _ (.tail _ (.tail _ (.tail _ (.tail _ (.head _)))))))) | exact .tail _ (.tail _ (.tail _ (.tail _ (.tail _ (.tail _ (.tail _ (.tail _ (.tail _ (.head _)))))))))) (by first | exact hyF | exact .tail _ hyF | exact .tail _ (.tail _ hyF) | exact .tail _ (.tail _ (.tail _ hyF)) | exact .tail _ (.tail _ (.tail _ (.tail _ hyF)))) hyc (by omega))) (fun B => ?_)
        refine AR.done [0, 4, 5, 3, 1, 2] rfl ?_
        apply AR.more [(7, _), (8, _), (9, _)]
        refine AR.eff [7, 8, 9] 11 [0, 1, 2, 3, 4, 5, 6, 7, 8, 9, 10, 11, 12] ⟨QOne.yes rfl rfl rfl (PV.move rfl), QOne.yes rfl rfl rfl (PV.extract rfl rfl), QOne.yes rfl rfl rfl (PV.extract rfl rfl), trivial⟩ rfl rfl rfl rfl rfl rfl rfl (EV.storeA 0 rfl rfl rfl y_tz25 rfl rfl) (fun _ => ?_)
        refine AR.done [8, 7] rfl ?_
        apply AR.more [(12, _)]
        refine AR.last [9, 12] [0, 1, 2, 3, 4, 5, 6, 7, 8, 9, 10, 11, 12] ⟨QOne.yes rfl rfl rfl (PV.extract rfl rfl), QOne.yes rfl rfl rfl (PV.assign rfl), trivial⟩ rfl rfl rfl ?_
        refine NX.sub (E' := [(7, _), (8, _), (9, _), (10, _), (11, _), (12, _), (13, _), (14, _), (15, _), (16, _), (30, _), (31, _)]) ⟨rfl, rfl, rfl, rfl, rfl, rfl, rfl, rfl, rfl, rfl, rfl, rfl, trivial⟩ ?_
        refine NX.seq ?_
        refine TR.seq ?_
        refine TR.seq ?_
        refine TR.region ?_
        have hsA : Small 7 A.1.t := by rw [A.2]; exact Small.replR N.2 X.2 hyl (by omega) (by omega)
        refine RL.move rfl rfl rfl ?_
        refine RL.move rfl rfl rfl ?_
        refine RL.bin rfl rfl rfl (BinV.to (d := false) (BinV.neqB y_tb4) (by simp)) rfl ?_
        refine RL.move rfl rfl rfl ?_
        refine RL.loadA 1 rfl rfl rfl y_ta25 rfl ?_
        refine RL.loadA 0 rfl rfl rfl y_ta25 rfl ?_
        refine RL.call rfl rfl Try.call26 rfl (same_of A.2 B.2 (Small.replR N.2 X.2 hyl (m := 7) (by omega) (by omega)) (by omega) (by first | exact .head _ | exact .tail _ (.head _) | exact .tail _ (.tail _ (.head _)) | exact .tail _ (.tail _ (.tail _ (.head _))) | exact .tail _ (.tail _ (.tail _ (.tail _ (.head _)))) | exact .tail _ (.tail _ (.tail _ (.tail _ (.tail _ (.head _))))) | exact .tail _ (.tail _ (.tail _ (.tail _ (.tail _ (.tail _ (.head _)))))) | exact .tail _ (.tail _ (.tail _ (.tail _ (.tail _ (.tail _ (.tail _ (.head _))))))) | exact .tail _ (.tail _ (.tail _ (.tail _ (.tail _ (.tail _ (.tail _ (.tail _ (.head _)))))))) | exact .tail _ (.tail _ (.tail _ (.tail _ (.tail _ (.tail _ (.tail _ (.tail _ (.tail _ (.head _)))))))))) (by first | exact .head _ | exact .tail _ (.head _) | exact .tail _ (.tail _ (.head _)) | exact .tail _ (.tail _ (.tail _ (.head _))) | exact .tail _ (.tail _ (.tail _ (.tail _ (.head _)))) | exact .tail _ (.tail _ (.tail _ (.tail _ (.tail _ (.head _))))) | exact .tail _ (.tail _ (.tail _ (.tail _ (.tail _ (.tail _ (.head _)))))) | exact .tail _ (.tail _ (.tail _ (.tail _ (.tail _ (.tail _ (.tail _ (.head _))))))) | exact .tail _ (.tail _ (.tail _ (.tail _ (.tail _ (.tail _ (.tail _ (.tail _ (.head _)))))))) | exact .tail _ (.tail _ (.tail _ (.tail _ (.tail _ (.tail _ (.tail _ (.tail _ (.tail _ (.head _))))))))))) (fun _ => ?_)
        refine RL.not rfl rfl rfl ?_
        refine RL.pickF rfl rfl rfl rfl ?_
        refine RL.nil ?_
        refine NX.seq ?_
        refine TR.condF rfl ?_
        refine TR.skip ?_
        refine NX.seq ?_
        refine TR.seq ?_
        refine TR.sub (E' := [(7, _), (8, _), (9, _), (10, _), (11, _), (12, _), (13, _), (14, _), (15, _), (16, _), (30, _), (31, _), (54, _), (55, _), (56, _), (57, _), (58, _), (59, _), (60, _), (61, _), (62, _)]) ⟨rfl, rfl, rfl, rfl, rfl, rfl, rfl, rfl, rfl, rfl, rfl, rfl, rfl, rfl, rfl, rfl, rfl, rfl, rfl, rfl, rfl, trivial⟩ ?_
        refine TR.draw mixed ?_
        apply AR.more [(0, _), (1, _), (2, _), (3, _), (4, _)]
        refine AR.effs [0, 1, 2, 3, 4] [5, 10] [0, 1, 2, 3, 4, 5, 6, 7, 8, 9, 10, 11, 12, 13] ⟨QOne.yes rfl rfl rfl (PV.loadA 1 rfl rfl y_ta25), QOne.yes rfl rfl rfl (PV.move rfl), QOne.yes rfl rfl rfl (PV.move rfl), QOne.yes rfl rfl rfl (PV.indexAddr y_tl48 y_tz22 rfl rfl (by omega) (by omega)), QOne.yes rfl rfl rfl (PV.load1 2 y_ts22 rfl rfl hy), trivial⟩ rfl rfl rfl rfl ⟨EOne.of rfl rfl rfl (EV.call rfl Try.call22 (get_spec (d := 7) hsA (by omega) (by first | exact .head _ | exact .tail _ (.head _) | exact .tail _ (.tail _ (.head _)) | exact .tail _ (.tail _ (.tail _ (.head _))) | exact .tail _ (.tail _ (.tail _ (.tail _ (.head _)))) | exact .tail _ (.tail _ (.tail _ (.tail _ (.tail _ (.head _))))) | exact .tail _ (.tail _ (.tail _ (.tail _ (.tail _ (.tail _ (.head _)))))) | exact .tail _ (.tail _ (.tail _ (.tail _ (.tail _ (.tail _ (.tail _ (.head _))))))) | exact .tail _ (.tail _ (.tail _ (.tail _ (.tail _ (.tail _ (.tail _ (.tail _ (.head _)))))))) | exact .tail _ (.tail _ (.tail _ (.tail _ (.tail _ (.tail _ (.tail _ (.tail _ (.tail _ (.head _)))))))))) (ca := y.oc) (ps := y.ps) (by first | exact hyF | exact .tail _ hyF | exact .tail _ (.tail _ hyF) | exact .tail _ (.tail _ (.tail _ hyF)) | exact .tail _ (.tail _ (.tail _ (.tail _ hyF)))) (by omega))) (fun C => ?_), EOne.of rfl rfl rfl (EV.allocA (Try.zeroValue25)) (fun b14 => ?_), trivial⟩
        · skip
          refine AR.done [0, 4, 3, 1, 2] rfl ?_
          apply AR.more [(6, _), (7, _), (8, _), (9, _)]
          refine AR.eff [6, 7, 8, 9] 10 [0, 1, 2, 3, 4, 5, 6, 7, 8, 9, 10, 11, 12, 13] ⟨QOne.yes rfl rfl rfl (PV.move rfl), QOne.yes rfl rfl rfl (PV.extract rfl rfl), QOne.yes rfl rfl rfl (PV.extract rfl rfl), QOne.yes rfl rfl rfl (PV.extract rfl rfl), trivial⟩ rfl rfl rfl rfl rfl rfl rfl (EV.allocA (Try.zeroValue25)) (fun b15 => ?_)
          refine AR.eff [6, 7, 8, 9] 11 [0, 1, 2, 3, 4, 5, 6, 7, 8, 9, 10, 11, 12, 13] ⟨QOne.yes rfl rfl rfl (PV.move rfl), QOne.yes rfl rfl rfl (PV.extract rfl rfl), QOne.yes rfl rfl rfl (PV.extract rfl rfl), QOne.yes rfl rfl rfl (PV.extract rfl rfl), trivial⟩ rfl rfl rfl rfl rfl rfl rfl (EV.storeA 0 rfl rfl rfl y_tz25 rfl rfl) (fun _ => ?_)
          refine AR.done [7, 6] rfl ?_
          apply AR.more [(12, _), (13, _)]
          refine AR.last [8, 9, 12, 13] [0, 1, 2, 3, 4, 5, 6, 7, 8, 9, 10, 11, 12, 13] ⟨QOne.yes rfl rfl rfl (PV.extract rfl rfl), QOne.yes rfl rfl rfl (PV.extract rfl rfl), QOne.yes rfl rfl rfl (PV.assign rfl), QOne.yes rfl rfl rfl (PV.assign rfl), trivial⟩ rfl rfl rfl ?_
          refine NX.sub (E' := [(7, _), (8, _), (9, _), (10, _), (11, _), (12, _), (13, _), (14, _), (15, _), (16, _), (17, _), (19, _), (30, _), (31, _), (54, _), (55, _), (56, _), (57, _), (58, _), (59, _), (60, _), (61, _), (62, _)]) ⟨rfl, rfl, rfl, rfl, rfl, rfl, rfl, rfl, rfl, rfl, rfl, rfl, rfl, rfl, rfl, rfl, rfl, rfl, rfl, rfl, rfl, rfl, rfl, trivial⟩ ?_
          refine NX.seq ?_
          refine TR.seq ?_
          refine TR.region ?_
          refine RL.move rfl rfl rfl ?_
          refine RL.move rfl rfl rfl ?_
          refine RL.part (fun h16 => ?_) (fun h16 => ?_)
          · skip
            have hgot : (A.1.t.getR y.ps).1 = X.1.t ∧ (A.1.t.getR y.ps).2.2 = true := by rw [A.2]; exact getR_replR h16
            refine RL.move rfl rfl rfl ?_
            refine RL.not (b := true) rfl (congrArg (fun b => some (Value.bool b)) hgot.2) rfl ?_
            refine RL.move rfl rfl rfl ?_
            refine RL.loadA 0 rfl rfl rfl y_ta25 rfl ?_
            refine RL.loadA 4 rfl rfl rfl y_ta25 rfl ?_
            refine RL.call rfl rfl Try.call26 rfl (same_of (s := X.1.t) (C.2.trans hgot.1) rfl X.2 (by omega) (by first | exact .head _ | exact .tail _ (.head _) | exact .tail _ (.tail _ (.head _)) | exact .tail _ (.tail _ (.tail _ (.head _))) | exact .tail _ (.tail _ (.tail _ (.tail _ (.head _)))) | exact .tail _ (.tail _ (.tail _ (.tail _ (.tail _ (.head _))))) | exact .tail _ (.tail _ (.tail _ (.tail _ (.tail _ (.tail _ (.head _)))))) | exact .tail _ (.tail _ (.tail _ (.tail _ (.tail _ (.tail _ (.tail _ (.head _))))))) | exact .tail _ (.tail _ (.tail _ (.tail _ (.tail _ (.tail _ (.tail _ (.tail _ (.head _)))))))) | exact .tail _ (.tail _ (.tail _ (.tail _ (.tail _ (.tail _ (.tail _ (.tail _ (.tail _ (.head _)))))))))) (by first | exact .head _ | exact .tail _ (.head _) | exact .tail _ (.tail _ (.head _)) | exact .tail _ (.tail _ (.tail _ (.head _))) | exact .tail _ (.tail _ (.tail _ (.tail _ (.head _)))) | exact .tail _ (.tail _ (.tail _ (.tail _ (.tail _ (.head _))))) | exact .tail _ (.tail _ (.tail _ (.tail _ (.tail _ (.tail _ (.head _)))))) | exact .tail _ (.tail _ (.tail _ (.tail _ (.tail _ (.tail _ (.tail _ (.head _))))))) | exact .tail _ (.tail _ (.tail _ (.tail _ (.tail _ (.tail _ (.tail _ (.tail _ (.head _)))))))) | exact .tail _ (.tail _ (.tail _ (.tail _ (.tail _ (.tail _ (.tail _ (.tail _ (.tail _ (.head _))))))))))) (fun _ => ?_)
            refine RL.not rfl rfl rfl ?_
            refine RL.pickF rfl rfl rfl rfl ?_
            refine RL.pickT rfl rfl rfl rfl ?_
            refine RL.nil ?_
            refine NX.seq ?_
            refine TR.condF rfl ?_
            refine TR.skip ?_
            refine NX.off ?_
            refine NX.seq ?_
            refine TR.region ?_
            refine RL.move rfl rfl rfl ?_
            refine RL.bin rfl rfl rfl (BinV.add _ rfl (by omega) (by omega)) rfl ?_
            refine RL.assign rfl rfl rfl ?_
            refine RL.nil ?_
            refine NX.roundP (k + 1) (by omega) (by omega) ⟨rfl, rfl, rfl, rfl, rfl, rfl, trivial⟩ (fun w hw => (((hw.drop 0 rfl).drop 0 rfl).drop 0 rfl).facts (fun φ h => .tail _ (.tail _ (.tail _ (h)))))
          · skip
            refine RL.skip rfl rfl rfl ?_
            refine RL.skip rfl rfl rfl ?_
            refine RL.skip rfl rfl rfl ?_
            refine RL.skip rfl rfl rfl ?_
            refine RL.skip rfl rfl rfl ?_
            refine RL.skip rfl rfl rfl ?_
            refine RL.skip rfl rfl rfl ?_
            refine RL.skip rfl rfl rfl ?_
            refine RL.pickF rfl rfl rfl rfl ?_
            refine RL.nil ?_
            refine NX.seq ?_
            refine TR.condF rfl ?_
            refine TR.skip ?_
            refine NX.off ?_
            refine NX.seq ?_
            refine TR.region ?_
            refine RL.move rfl rfl rfl ?_
            refine RL.bin rfl rfl rfl (BinV.add _ rfl (by omega) (by omega)) rfl ?_
            refine RL.assign rfl rfl rfl ?_
            refine RL.nil ?_
            refine NX.roundP (k + 1) (by omega) (by omega) ⟨rfl, rfl, rfl, rfl, rfl, rfl, trivial⟩ (fun w hw => (((hw.drop 0 rfl).drop 0 rfl).drop 0 rfl).facts (fun φ h => .tail _ (.tail _ (.tail _ (h)))))
        · skip
          refine AR.eff [0, 1, 2, 3, 4] 5 [0, 1, 2, 3, 4, 5, 6, 7, 8, 9, 10, 11, 12, 13] ⟨QOne.yes rfl rfl rfl (PV.loadA 2 rfl rfl y_ta25), QOne.yes rfl rfl rfl (PV.move rfl), QOne.yes rfl rfl rfl (PV.move rfl), QOne.yes rfl rfl rfl (PV.indexAddr y_tl48 y_tz22 rfl rfl (by omega) (by omega)), QOne.yes rfl rfl rfl (PV.load1 3 y_ts22 rfl rfl hy), trivial⟩ rfl rfl rfl rfl rfl rfl rfl (EV.call rfl Try.call22 (get_spec (d := 7) hsA (by omega) (by first | exact .head _ | exact .tail _ (.head _) | exact .tail _ (.tail _ (.head _)) | exact .tail _ (.tail _ (.tail _ (.head _))) | exact .tail _ (.tail _ (.tail _ (.tail _ (.head _)))) | exact .tail _ (.tail _ (.tail _ (.tail _ (.tail _ (.head _))))) | exact .tail _ (.tail _ (.tail _ (.tail _ (.tail _ (.tail _ (.head _)))))) | exact .tail _ (.tail _ (.tail _ (.tail _ (.tail _ (.tail _ (.tail _ (.head _))))))) | exact .tail _ (.tail _ (.tail _ (.tail _ (.tail _ (.tail _ (.tail _ (.tail _ (.head _)))))))) | exact .tail _ (.tail _ (.tail _ (.tail _ (.tail _ (.tail _ (.tail _ (.tail _ (.tail _ (.head _)))))))))) (ca := y.oc) (ps := y.ps) (by first | exact hyF | exact .tail _ hyF | exact .tail _ (.tail _ hyF) | exact .tail _ (.tail _ (.tail _ hyF)) | exact .tail _ (.tail _ (.tail _ (.tail _ hyF)))) (by omega))) (fun C => ?_)
          refine AR.done [0, 4, 3, 1, 2] rfl ?_
          apply AR.more [(6, _), (7, _), (8, _), (9, _)]
          refine AR.eff [6, 7, 8, 9] 11 [0, 1, 2, 3, 4, 5, 6, 7, 8, 9, 10, 11, 12, 13] ⟨QOne.yes rfl rfl rfl (PV.move rfl), QOne.yes rfl rfl rfl (PV.extract rfl rfl), QOne.yes rfl rfl rfl (PV.extract rfl rfl), QOne.yes rfl rfl rfl (PV.extract rfl rfl), trivial⟩ rfl rfl rfl rfl rfl rfl rfl (EV.storeA 0 rfl rfl rfl y_tz25 rfl rfl) (fun _ => ?_)
          refine AR.done [7, 6] rfl ?_
          apply AR.more [(12, _), (13, _)]
          refine AR.last [8, 9, 12, 13] [0, 1, 2, 3, 4, 5, 6, 7, 8, 9, 10, 11, 12, 13] ⟨QOne.yes rfl rfl rfl (PV.extract rfl rfl), QOne.yes rfl rfl rfl (PV.extract rfl rfl), QOne.yes rfl rfl rfl (PV.assign rfl), QOne.yes rfl rfl rfl (PV.assign rfl), trivial⟩ rfl rfl rfl ?_
          refine NX.sub (E' := [(7, _), (8, _), (9, _), (10, _), (11, _), (12, _), (13, _), (14, _), (15, _), (16, _), (17, _), (19, _), (30, _), (31, _), (54, _), (55, _), (56, _), (57, _), (58, _), (59, _), (60, _), (61, _), (62, _)]) ⟨rfl, rfl, rfl, rfl, rfl, rfl, rfl, rfl, rfl, rfl, rfl, rfl, rfl, rfl, rfl, rfl, rfl, rfl, rfl, rfl, rfl, rfl, rfl, trivial⟩ ?_
          refine NX.seq ?_
          refine TR.seq ?_
          refine TR.region ?_
          refine RL.move rfl rfl rfl ?_
          refine RL.move rfl rfl rfl ?_
          refine RL.part (fun h17 => ?_) (fun h17 => ?_)
          · skip
            have hgot : (A.1.t.getR y.ps).1 = X.1.t ∧ (A.1.t.getR y.ps).2.2 = true := by rw [A.2]; exact getR_replR h17
            refine RL.move rfl rfl rfl ?_
            refine RL.not (b := true) rfl (congrArg (fun b => some (Value.bool b)) hgot.2) rfl ?_
            refine RL.move rfl rfl rfl ?_
            refine RL.loadA 0 rfl rfl rfl y_ta25 rfl ?_
            refine RL.loadA 4 rfl rfl rfl y_ta25 rfl ?_
            refine RL.call rfl rfl Try.call26 rfl (same_of (s := X.1.t) (C.2.trans hgot.1) rfl X.2 (by omega) (by first | exact .head _ | exact .tail _ (.head _) | exact .tail _ (.tail _ (.head _)) | exact .tail _ (.tail _ (.tail _ (.head _))) | exact .tail _ (.tail _ (.tail _ (.tail _ (.head _)))) | exact .tail _ (.tail _ (.tail _ (.tail _ (.tail _ (.head _))))) | exact .tail _ (.tail _ (.tail _ (.tail _ (.tail _ (.tail _ (.head _)))))) | exact .tail _ (.tail _ (.tail _ (.tail _ (.tail _ (.tail _ (.tail _ (.head _))))))) | exact .tail _ (.tail _ (.tail _ (.tail _ (.tail _ (.tail _ (.tail _ (.tail _ (.head _)))))))) | exact .tail _ (.tail _ (.tail _ (.tail _ (.tail _ (.tail _ (.tail _ (.tail _ (.tail _ (.head _)))))))))) (by first | exact .head _ | exact .tail _ (.head _) | exact .tail _ (.tail _ (.head _)) | exact .tail _ (.tail _ (.tail _ (.head _))) | exact .tail _ (.tail _ (.tail _ (.tail _ (.head _)))) | exact .tail _ (.tail _ (.tail _ (.tail _ (.tail _ (.head _))))) | exact .tail _ (.tail _ (.tail _ (.tail _ (.tail _ (.tail _ (.head _)))))) | exact .tail _ (.tail _ (.tail _ (.tail _ (.tail _ (.tail _ (.tail _ (.head _))))))) | exact .tail _ (.tail _ (.tail _ (.tail _ (.tail _ (.tail _ (.tail _ (.tail _ (.head _)))))))) | exact .tail _ (.tail _ (.tail _ (.tail _ (.tail _ (.tail _ (.tail _ (.tail _ (.tail _ (.head _))))))))))) (fun _ => ?_)
            refine RL.not rfl rfl rfl ?_
            refine RL.pickF rfl rfl rfl rfl ?_
            refine RL.pickT rfl rfl rfl rfl ?_
            refine RL.nil ?_
            refine NX.seq ?_
            refine TR.condF rfl ?_
            refine TR.skip ?_
            refine NX.off ?_
            refine NX.seq ?_
            refine TR.region ?_
            refine RL.move rfl rfl rfl ?_
            refine RL.bin rfl rfl rfl (BinV.add _ rfl (by omega) (by omega)) rfl ?_
            refine RL.assign rfl rfl rfl ?_
            refine RL.nil ?_
            refine NX.roundP (k + 1) (by omega) (by omega) ⟨rfl, rfl, rfl, rfl, rfl, rfl, trivial⟩ (fun w hw => (((hw.drop 0 rfl).drop 0 rfl).drop 0 rfl).facts (fun φ h => .tail _ (.tail _ (.tail _ (h)))))
          · skip
            refine RL.skip rfl rfl rfl ?_
            refine RL.skip rfl rfl rfl ?_
            refine RL.skip rfl rfl rfl ?_
            refine RL.skip rfl rfl rfl ?_
            refine RL.skip rfl rfl rfl ?_
            refine RL.skip rfl rfl rfl ?_
            refine RL.skip rfl rfl rfl ?_
            refine RL.skip rfl rfl rfl ?_
            refine RL.pickF rfl rfl rfl rfl ?_
            refine RL.nil ?_
            refine NX.seq ?_
            refine TR.condF rfl ?_
            refine TR.skip ?_
            refine NX.off ?_
            refine NX.seq ?_
            refine TR.region ?_
            refine RL.move rfl rfl rfl ?_
            refine RL.bin rfl rfl rfl (BinV.add _ rfl (by omega) (by omega)) rfl ?_
            refine RL.assign rfl rfl rfl ?_
            refine RL.nil ?_
            refine NX.roundP (k + 1) (by omega) (by omega) ⟨rfl, rfl, rfl, rfl, rfl, rfl, trivial⟩ (fun w hw => (((hw.drop 0 rfl).drop 0 rfl).drop 0 rfl).facts (fun φ h => .tail _ (.tail _ (.tail _ (h)))))
    · skip
      refine AR.eff [0, 1, 2, 3, 4, 5] 6 [0, 1, 2, 3, 4, 5, 6, 7, 8, 9, 10, 11, 12] ⟨QOne.yes rfl rfl rfl (PV.loadA 3 rfl rfl y_ta25), QOne.yes rfl rfl rfl (PV.move rfl), QOne.yes rfl rfl rfl (PV.move rfl), QOne.yes rfl rfl rfl (PV.indexAddr y_tl48 y_tz22 rfl rfl (by omega) (by omega)), QOne.yes rfl rfl rfl (PV.load1 1 y_ts22 rfl rfl hy), QOne.yes rfl rfl rfl (PV.loadA 2 rfl rfl y_ta25), trivial⟩ rfl rfl rfl rfl rfl rfl rfl (EV.call rfl Try.call24 (replace_spec N.2 (by omega) (by first | exact .head _ | exact .tail _ (.head _) | exact .tail _ (.tail _ (.head _)) | exact .tail _ (.tail _ (.tail _ (.head _))) | exact .tail _ (.tail _ (.tail _ (.tail _ (.head _)))) | exact .tail _ (.tail _ (.tail _ (.tail _ (.tail _ (.head _))))) | exact .tail _ (.tail _ (.tail _ (.tail _ (.tail _ (.tail _ (.head _)))))) | exact .tail _ (.tail _ (.tail _ (.tail _ (.tail _ (.tail _ (.tail _ (.head _))))))) | exact .tail _ (.tail _ (.tail _ (.tail _ (.tail _ (.tail _ (.tail _ (.tail _ (.head _)))))))) | exact .tail _ (.tail _ (.tail _ (.tail _ (.tail _ (.tail _ (.tail _ (.tail _ (.tail _ (.head _)))))))))) X.2 (by omega) (by first | exact .head _ | exact .tail _ (.head _) | exact .tail _ (.tail _ (.head _)) | exact .tail _ (.tail _ (.tail _ (.head _))) | exact .tail _ (.tail _ (.tail _ (.tail _ (.head _)))) | exact .tail _ (.tail _ (.tail _ (.tail _ (.tail _ (.head _))))) | exact .tail _ (.tail _ (.tail _ (.tail _ (.tail _ (.tail _ (.head _)))))) | exact .tail _ (.tail _ (.tail _ (.tail _ (.tail _ (.tail _ (.tail _ (.head _))))))) | exact .tail _ (.tail _ (.tail _ (.tail _ (.tail _ (.tail _ (.tail _ (.tail _ (.head _)))))))) | exact .tail _ (.tail _ (.tail _ (.tail _ (.tail _ (.tail _ (.tail _ (.tail _ (.tail _ (.head _)))))))))) (ca := y.oc) (ps := y.ps) (by first | exact hyF | exact .tail _ hyF | exact .tail _ (.tail _ hyF) | exact .tail _ (.tail _ (.tail _ hyF)) | exact .tail _ (.tail _ (.tail _ (.tail _ hyF)))) (by omega))) (fun A => ?_)
      refine AR.done [0, 4, 5, 3, 1, 2] rfl ?_
      apply AR.more [(7, _), (8, _), (9, _)]
      refine AR.eff [7, 8, 9] 11 [0, 1, 2, 3, 4, 5, 6, 7, 8, 9, 10, 11, 12] ⟨QOne.yes rfl rfl rfl (PV.move rfl), QOne.yes rfl rfl rfl (PV.extract rfl rfl), QOne.yes rfl rfl rfl (PV.extract rfl rfl), trivial⟩ rfl rfl rfl rfl rfl rfl rfl (EV.storeA 0 rfl rfl rfl y_tz25 rfl rfl) (fun _ => ?_)
      refine AR.done [8, 7] rfl ?_
      apply AR.more [(12, _)]
      refine AR.last [9, 12] [0, 1, 2, 3, 4, 5, 6, 7, 8, 9, 10, 11, 12] ⟨QOne.yes rfl rfl rfl (PV.extract rfl rfl), QOne.yes rfl rfl rfl (PV.assign rfl), trivial⟩ rfl rfl rfl ?_
      refine NX.sub (E' := [(7, _), (8, _), (9, _), (10, _), (11, _), (12, _), (13, _), (14, _), (30, _), (31, _)]) ⟨rfl, rfl, rfl, rfl, rfl, rfl, rfl, rfl, rfl, rfl, trivial⟩ ?_
      refine NX.seq ?_
      refine TR.seq ?_
      refine TR.sub (E' := [(7, _), (8, _), (9, _), (10, _), (11, _), (12, _), (13, _), (14, _), (30, _), (31, _)]) ⟨rfl, rfl, rfl, rfl, rfl, rfl, rfl, rfl, rfl, rfl, trivial⟩ ?_
      refine TR.draw mixed ?_
      apply AR.more [(0, _), (1, _), (2, _), (3, _), (4, _), (5, _)]
      refine AR.effs [0, 1, 2, 3, 4, 5] [6, 10] [0, 1, 2, 3, 4, 5, 6, 7, 8, 9, 10, 11, 12] ⟨QOne.yes rfl rfl rfl (PV.loadA 3 rfl rfl y_ta25), QOne.yes rfl rfl rfl (PV.move rfl), QOne.yes rfl rfl rfl (PV.move rfl), QOne.yes rfl rfl rfl (PV.indexAddr y_tl48 y_tz22 rfl rfl (by omega) (by omega)), QOne.yes rfl rfl rfl (PV.load1 1 y_ts22 rfl rfl hy), QOne.yes rfl rfl rfl (PV.loadA 2 rfl rfl y_ta25), trivial⟩ rfl rfl rfl rfl ⟨EOne.of rfl rfl rfl (EV.call rfl Try.call25 (refReplace_spec N.2 (by omega) (by first | exact .head _ | exact .tail _ (.head _) | exact .tail _ (.tail _ (.head _)) | exact .tail _ (.tail _ (.tail _ (.head _))) | exact .tail _ (.tail _ (.tail _ (.tail _ (.head _)))) | exact .tail _ (.tail _ (.tail _ (.tail _ (.tail _ (.head _))))) | exact .tail _ (.tail _ (.tail _ (.tail _ (.tail _ (.tail _ (.head _)))))) | exact .tail _ (.tail _ (.tail _ (.tail _ (.tail _ (.tail _ (.tail _ (.head _))))))) | exact .tail _ (.tail _ (.tail _ (.tail _ (.tail _ (.tail _ (.tail _ (.tail _ (.head _)))))))) | exact .tail _ (.tail _ (.tail _ (.tail _ (.tail _ (.tail _ (.tail _ (.tail _ (.tail _ (.head _)))))))))) (by first | exact .head _ | exact .tail _ (.head _) | exact .tail _ (.tail _ (.head _)) | exact .tail _ (.tail _ (.tail _ (.head _))) | exact .tail _ (.tail _ (.tail _ (.tail _ (.head _)))) | exact .tail _ (.tail _ (.tail _ (.tail _ (.tail _ (.head _))))) | exact .tail _ (.tail _ (.tail _ (.tail _ (.tail _ (.tail _ (.head _)))))) | exact .tail _ (.tail _ (.tail _ (.tail _ (.tail _ (.tail _ (.tail _ (.head _))))))) | exact .tail _ (.tail _ (.tail _ (.tail _ (.tail _ (.tail _ (.tail _ (.tail _ (.head _)))))))) | exact .tail _ (.tail _ (.tail _ (.tail _ (.tail _ (.tail _ (.tail _ (.tail _ (.tail _ (.head _)))))))))) (by first | exact hyF | exact .tail _ hyF | exact .tail _ (.tail _ hyF) | exact .tail _ (.tail _ (.tail _ hyF)) | exact .tail _ (.tail _ (.tail _ (.tail _ hyF)))) hyc (by omega))) (fun B => ?_), EOne.of rfl rfl rfl (EV.allocA (Try.zeroValue25)) (fun b18 => ?_), trivial⟩
      · skip
        refine AR.done [0, 4, 5, 3, 1, 2] rfl ?_
        apply AR.more [(7, _), (8, _), (9, _)]
        refine AR.eff [7, 8, 9] 10 [0, 1, 2, 3, 4, 5, 6, 7, 8, 9, 10, 11, 12] ⟨QOne.yes rfl rfl rfl (PV.move rfl), QOne.yes rfl rfl rfl (PV.extract rfl rfl), QOne.yes rfl rfl rfl (PV.extract rfl rfl), trivial⟩ rfl rfl rfl rfl rfl rfl rfl (EV.allocA (Try.zeroValue25)) (fun b19 => ?_)
        refine AR.eff [7, 8, 9] 11 [0, 1, 2, 3, 4, 5, 6, 7, 8, 9, 10, 11, 12] ⟨QOne.yes rfl rfl rfl (PV.move rfl), QOne.yes rfl rfl rfl (PV.extract rfl rfl), QOne.yes rfl rfl rfl (PV.extract rfl rfl), trivial⟩ rfl rfl rfl rfl rfl rfl rfl (EV.storeA 0 rfl rfl rfl y_tz25 rfl rfl) (fun _ => ?_)
        refine AR.done [8, 7] rfl ?_
        apply AR.more [(12, _)]
        refine AR.last [9, 12] [0, 1, 2, 3, 4, 5, 6, 7, 8, 9, 10, 11, 12] ⟨QOne.yes rfl rfl rfl (PV.extract rfl rfl), QOne.yes rfl rfl rfl (PV.assign rfl), trivial⟩ rfl rfl rfl ?_
        refine NX.sub (E' := [(7, _), (8, _), (9, _), (10, _), (11, _), (12, _), (13, _), (14, _), (15, _), (16, _), (30, _), (31, _)]) ⟨rfl, rfl, rfl, rfl, rfl, rfl, rfl, rfl, rfl, rfl, rfl, rfl, trivial⟩ ?_
        refine NX.seq ?_
        refine TR.seq ?_
        refine TR.seq ?_
        refine TR.region ?_
        have hsA : Small 7 A.1.t := by rw [A.2]; exact Small.replR N.2 X.2 hyl (by omega) (by omega)
        refine RL.move rfl rfl rfl ?_
        refine RL.move rfl rfl rfl ?_
        refine RL.bin rfl rfl rfl (BinV.to (d := false) (BinV.neqB y_tb4) (by simp)) rfl ?_
        refine RL.move rfl rfl rfl ?_
        refine RL.loadA 1 rfl rfl rfl y_ta25 rfl ?_
        refine RL.loadA 0 rfl rfl rfl y_ta25 rfl ?_
        refine RL.call rfl rfl Try.call26 rfl (same_of A.2 B.2 (Small.replR N.2 X.2 hyl (m := 7) (by omega) (by omega)) (by omega) (by first | exact .head _ | exact .tail _ (.head _) | exact .tail _ (.tail _ (.head _)) | exact .tail _ (.tail _ (.tail _ (.head _))) | exact .tail _ (.tail _ (.tail _ (.tail _ (.head _)))) | exact .tail _ (.tail _ (.tail _ (.tail _ (.tail _ (.head _))))) | exact .tail _ (.tail _ (.tail _ (.tail _ (.tail _ (.tail _ (.head _)))))) | exact .tail _ (.tail _ (.tail _ (.tail _ (.tail _ (.tail _ (.tail _ (.head _))))))) | exact .tail _ (.tail _ (.tail _ (.tail _ (.tail _ (.tail _ (.tail _ (.tail _ (.head _)))))))) | exact .tail _ (.tail _ (.tail _ (.tail _ (.tail _ (.tail _ (.tail _ (.tail _ (.tail _ (.head _)))))))))) (by first | exact .head _ | exact .tail _ (.head _) | exact .tail _ (.tail _ (.head _)) | exact .tail _ (.tail _ (.tail _ (.head _))) | exact .tail _ (.tail _ (.tail _ (.tail _ (.head _)))) | exact .tail _ (.tail _ (.tail _ (.tail _ (.tail _ (.head _))))) | exact .tail _ (.tail _ (.tail _ (.tail _ (.tail _ (.tail _ (.head _)))))) | exact .tail _ (.tail _ (.tail _ (.tail _ (.tail _ (.tail _ (.tail _ (.head _))))))) | exact .tail _ (.tail _ (.tail _ (.tail _ (.tail _ (.tail _ (.tail _ (.tail _ (.head _)))))))) | exact .tail _ (.tail _ (.tail _ (.tail _ (.tail _ (.tail _ (.tail _ (.tail _ (.tail _ (.head _))))))))))) (fun _ => ?_)
        refine RL.not rfl rfl rfl ?_
        refine RL.pickF rfl rfl rfl rfl ?_
        refine RL.nil ?_
        refine NX.seq ?_
        refine TR.condF rfl ?_
        refine TR.skip ?_
        refine NX.seq ?_
        refine TR.seq ?_
        refine TR.sub (E' := [(7, _), (8, _), (9, _), (10, _), (11, _), (12, _), (13, _), (14, _), (15, _), (16, _), (30, _), (31, _), (54, _), (55, _), (56, _), (57, _), (58, _), (59, _), (60, _), (61, _), (62, _)]) ⟨rfl, rfl, rfl, rfl, rfl, rfl, rfl, rfl, rfl, rfl, rfl, rfl, rfl, rfl, rfl, rfl, rfl, rfl, rfl, rfl, rfl, trivial⟩ ?_
        refine TR.draw mixed ?_
        apply AR.more [(0, _), (1, _), (2, _), (3, _), (4, _)]
        refine AR.effs [0, 1, 2, 3, 4] [5, 10] [0, 1, 2, 3, 4, 5, 6, 7, 8, 9, 10, 11, 12, 13] ⟨QOne.yes rfl rfl rfl (PV.loadA 1 rfl rfl y_ta25), QOne.yes rfl rfl rfl (PV.move rfl), QOne.yes rfl rfl rfl (PV.move rfl), QOne.yes rfl rfl rfl (PV.indexAddr y_tl48 y_tz22 rfl rfl (by omega) (by omega)), QOne.yes rfl rfl rfl (PV.load1 2 y_ts22 rfl rfl hy), trivial⟩ rfl rfl rfl rfl ⟨EOne.of rfl rfl rfl (EV.call rfl Try.call22 (get_spec (d := 7) hsA (by omega) (by first | exact .head _ | exact .tail _ (.head _) | exact .tail _ (.tail _ (.head _)) | exact .tail _ (.tail _ (.tail _ (.head _))) | exact .tail _ (.tail _ (.tail _ (.tail _ (.head _)))) | exact .tail _ (.tail _ (.tail _ (.tail _ (.tail _ (.head _))))) | exact .tail _ (.tail _ (.tail _ (.tail _ (.tail _ (.tail _ (.head _)))))) | exact .tail _ (.tail _ (.tail _ (.tail _ (.tail _ (.tail _ (.tail _ (.head _))))))) | exact .tail _ (.tail _ (.tail _ (.tail _ (.tail _ (.tail _ (.tail _ (.tail _ (.head _)))))))) | exact .tail _ (.tail _ (.tail _ (.tail _ (.tail _ (.tail _ (.tail _ (.tail _ (.tail _ (.head _)))))))))) (ca := y.oc) (ps := y.ps) (by first | exact hyF | exact .tail _ hyF | exact .tail _ (.tail _ hyF) | exact .tail _ (.tail _ (.tail _ hyF)) | exact .tail _ (.tail _ (.tail _ (.tail _ hyF)))) (by omega))) (fun C => ?_), EOne.of rfl rfl rfl (EV.allocA (Try.zeroValue25)) (fun b20 => ?_), trivial⟩
        · skip
          refine AR.done [0, 4, 3, 1, 2] rfl ?_
          apply AR.more [(6, _), (7, _), (8, _), (9, _)]
          refine AR.eff [6, 7, 8, 9] 10 [0, 1, 2, 3, 4, 5, 6, 7, 8, 9, 10, 11, 12, 13] ⟨QOne.yes rfl rfl rfl (PV.move rfl), QOne.yes rfl rfl rfl (PV.extract rfl rfl), QOne.yes rfl rfl rfl (PV.extract rfl rfl), QOne.yes rfl rfl rfl (PV.extract rfl rfl), trivial⟩ rfl rfl rfl rfl rfl rfl rfl (EV.allocA (Try.zeroValue25)) (fun b21 => ?_)
          refine AR.eff [6, 7, 8, 9] 11 [0, 1, 2, 3, 4, 5, 6, 7, 8, 9, 10, 11, 12, 13] ⟨QOne.yes rfl rfl rfl (PV.move rfl), QOne.yes rfl rfl rfl (PV.extract rfl rfl), QOne.yes rfl rfl rfl (PV.extract rfl rfl), QOne.yes rfl rfl rfl (PV.extract rfl rfl), trivial⟩ rfl rfl rfl rfl rfl rfl rfl (EV.storeA 0 rfl rfl rfl y_tz25 rfl rfl) (fun _ => ?_)
          refine AR.done [7, 6] rfl ?_
          apply AR.more [(12, _), (13, _)]
          refine AR.last [8, 9, 12, 13] [0, 1, 2, 3, 4, 5, 6, 7, 8, 9, 10, 11, 12, 13] ⟨QOne.yes rfl rfl rfl (PV.extract rfl rfl), QOne.yes rfl rfl rfl (PV.extract rfl rfl), QOne.yes rfl rfl rfl (PV.assign rfl), QOne.yes rfl rfl rfl (PV.assign rfl), trivial⟩ rfl rfl rfl ?_
          refine NX.sub (E' := [(7, _), (8, _), (9, _), (10, _), (11, _), (12, _), (13, _), (14, _), (15, _), (16, _), (17, _), (19, _), (30, _), (31, _), (54, _), (55, _), (56, _), (57, _), (58, _), (59, _), (60, _), (61, _), (62, _)]) ⟨rfl, rfl, rfl, rfl, rfl, rfl, rfl, rfl, rfl, rfl, rfl, rfl, rfl, rfl, rfl, rfl, rfl, rfl, rfl, rfl, rfl, rfl, rfl, trivial⟩ ?_
          refine NX.seq ?_
          refine TR.seq ?_
          refine TR.region ?_
          refine RL.move rfl rfl rfl ?_
          refine RL.move rfl rfl rfl ?_
          refine RL.part (fun h22 => ?_) (fun h22 => ?_)
          · skip
            have hgot : (A.1.t.getR y.ps).1 = X.1.t ∧ (A.1.t.getR y.ps).2.2 = true := by rw [A.2]; exact getR_replR h22
            refine RL.move rfl rfl rfl ?_
            refine RL.not (b := true) rfl (congrArg (fun b => some (Value.bool b)) hgot.2) rfl ?_
            refine RL.move rfl rfl rfl ?_
            refine RL.loadA 0 rfl rfl rfl y_ta25 rfl ?_
            refine RL.loadA 4 rfl rfl rfl y_ta25 rfl ?_
            refine RL.call rfl rfl Try.call26 rfl (same_of (s := X.1.t) (C.2.trans hgot.1) rfl X.2 (by omega) (by first | exact .head _ | exact .tail _ (.head _) | exact .tail _ (.tail _ (.head _)) | exact .tail _ (.tail _ (.tail _ (.head _))) | exact .tail _ (.tail _ (.tail _ (.tail _ (.head _)))) | exact .tail _ (.tail _ (.tail _ (.tail _ (.tail _ (.head _))))) | exact .tail _ (.tail _ (.tail _ (.tail _ (.tail _ (.tail _ (.head _)))))) | exact .tail _ (.tail _ (.tail _ (.tail _ (.tail _ (.tail _ (.tail _ (.head _))))))) | exact .tail _ (.tail _ (.tail _ (.tail _ (.tail _ (.tail _ (.tail _ (.tail _ (.head _)))))))) | exact .tail _ (.tail _ (.tail _ (.tail _ (.tail _ (.tail _ (.tail _ (.tail _ (.tail _ (.head _)))))))))) (by first | exact .head _ | exact .tail _ (.head _) | exact .tail _ (.tail _ (.head _)) | exact .tail _ (.tail _ (.tail _ (.head _))) | exact .tail _ (.tail _ (.tail _ (.tail _ (.head _)))) | exact .tail _ (.tail _ (.tail _ (.tail _ (.tail _ (.head _))))) | exact .tail _ (.tail _ (.tail _ (.tail _ (.tail _ (.tail _ (.head _)))))) | exact .tail _ (.tail _ (.tail _ (.tail _ (.tail _ (.tail _ (.tail _ (.head _))))))) | exact .tail _ (.tail _ (.tail _ (.tail _ (.tail _ (.tail _ (.tail _ (.tail _ (.head _)))))))) | exact .tail _ (.tail _ (.tail _ (.tail _ (.tail _ (.tail _ (.tail _ (.tail _ (.tail _ (.head _))))))))))) (fun _ => ?_)
            refine RL.not rfl rfl rfl ?_
            refine RL.pickF rfl rfl rfl rfl ?_
            refine RL.pickT rfl rfl rfl rfl ?_
            refine RL.nil ?_
            refine NX.seq ?_
            refine TR.condF rfl ?_
            refine TR.skip ?_
            refine NX.off ?_
            refine NX.seq ?_
            refine TR.region ?_
            refine RL.move rfl rfl rfl ?_
            refine RL.bin rfl rfl rfl (BinV.add _ rfl (by omega) (by omega)) rfl ?_
            refine RL.assign rfl rfl rfl ?_
            refine RL.nil ?_
            refine NX.roundP (k + 1) (by omega) (by omega) ⟨rfl, rfl, rfl, rfl, rfl, rfl, trivial⟩ (fun w hw => (((hw.drop 0 rfl).drop 0 rfl).drop 0 rfl).facts (fun φ h => .tail _ (.tail _ (.tail _ (h)))))
          · skip
            refine RL.skip rfl rfl rfl ?_
            refine RL.skip rfl rfl rfl ?_
            refine RL.skip rfl rfl rfl ?_
            refine RL.skip rfl rfl rfl ?_
            refine RL.skip rfl rfl rfl ?_
            refine RL.skip rfl rfl rfl ?_
            refine RL.skip rfl rfl rfl ?_
            refine RL.skip rfl rfl rfl ?_
            refine RL.pickF rfl rfl rfl rfl ?_
            refine RL.nil ?_
            refine NX.seq ?_
            refine TR.condF rfl ?_
            refine TR.skip ?_
            refine NX.off ?_
            refine NX.seq ?_
            refine TR.region ?_
            refine RL.move rfl rfl rfl ?_
            refine RL.bin rfl rfl rfl (BinV.add _ rfl (by omega) (by omega)) rfl ?_
            refine RL.assign rfl rfl rfl ?_
            refine RL.nil ?_
            refine NX.roundP (k + 1) (by omega) (by omega) ⟨rfl, rfl, rfl, rfl, rfl, rfl, trivial⟩ (fun w hw => (((hw.drop 0 rfl).drop 0 rfl).drop 0 rfl).facts (fun φ h => .tail _ (.tail _ (.tail _ (h)))))
        · skip
          refine AR.eff [0, 1, 2, 3, 4] 5 [0, 1, 2, 3, 4, 5, 6, 7, 8, 9, 10, 11, 12, 13] ⟨QOne.yes rfl rfl rfl (PV.loadA 2 rfl rfl y_ta25), QOne.yes rfl rfl rfl (PV.move rfl), QOne.yes rfl rfl rfl (PV.move rfl), QOne.yes rfl rfl rfl (PV.indexAddr y_tl48 y_tz22 rfl rfl (by omega) (by omega)), QOne.yes rfl rfl rfl (PV.load1 3 y_ts22 rfl rfl hy), trivial⟩ rfl rfl rfl rfl rfl rfl rfl (EV.call rfl Try.call22 (get_spec (d := 7) hsA (by omega) (by first | exact .head _ | exact .tail _ (.head _) | exact .tail _ (.tail _ (.head _)) | exact .tail _ (.tail _ (.tail _ (.head _))) | exact .tail _ (.tail _ (.tail _ (.tail _ (.head _)))) | exact .tail _ (.tail _ (.tail _ (.tail _ (.tail _ (.head _))))) | exact .tail _ (.tail _ (.tail _ (.tail _ (.tail _ (.tail _ (.head _)))))) | exact .tail _ (.tail _ (.tail _ (.tail _ (.tail _ (.tail _ (.tail _ (.head _))))))) | exact .tail _ (.tail _ (.tail _ (.tail _ (.tail _ (.tail _ (.tail _ (.tail _ (.head _)))))))) | exact .tail _ (.tail _ (.tail _ (.tail _ (.tail _ (.tail _ (.tail _ (.tail _ (.tail _ (.head _)))))))))) (ca := y.oc) (ps := y.ps) (by first | exact hyF | exact .tail _ hyF | exact .tail _ (.tail _ hyF) | exact .tail _ (.tail _ (.tail _ hyF)) | exact .tail _ (.tail _ (.tail _ (.tail _ hyF)))) (by omega))) (fun C => ?_)
          refine AR.done [0, 4, 3, 1, 2] rfl ?_
          apply AR.more [(6, _), (7, _), (8, _), (9, _)]
          refine AR.eff [6, 7, 8, 9] 11 [0, 1, 2, 3, 4, 5, 6, 7, 8, 9, 10, 11, 12, 13] ⟨QOne.yes rfl rfl rfl (PV.move rfl), QOne.yes rfl rfl rfl (PV.extract rfl rfl), QOne.yes rfl rfl rfl (PV.extract rfl rfl), QOne.yes rfl rfl rfl (PV.extract rfl rfl), trivial⟩ rfl rfl rfl rfl rfl rfl rfl (EV.storeA 0 rfl rfl rfl y_tz25 rfl rfl) (fun _ => ?_)
          refine AR.done [7, 6] rfl ?_
          apply AR.more [(12, _), (13, _)]
          refine AR.last [8, 9, 12, 13] [0, 1, 2, 3, 4, 5, 6, 7, 8, 9, 10, 11, 12, 13] ⟨QOne.yes rfl rfl rfl (PV.extract rfl rfl), QOne.yes rfl rfl rfl (PV.extract rfl rfl), QOne.yes rfl rfl rfl (PV.assign rfl), QOne.yes rfl rfl rfl (PV.assign rfl), trivial⟩ rfl rfl rfl ?_
          refine NX.sub (E' := [(7, _), (8, _), (9, _), (10, _), (11, _), (12, _), (13, _), (14, _), (15, _), (16, _), (17, _), (19, _), (30, _), (31, _), (54, _), (55, _), (56, _), (57, _), (58, _), (59, _), (60, _), (61, _), (62, _)]) ⟨rfl, rfl, rfl, rfl, rfl, rfl, rfl, rfl, rfl, rfl, rfl, rfl, rfl, rfl, rfl, rfl, rfl, rfl, rfl, rfl, rfl, rfl, rfl, trivial⟩ ?_
          refine NX.seq ?_
          refine TR.seq ?_
          refine TR.region ?_
          refine RL.move rfl rfl rfl ?_
          refine RL.move rfl rfl rfl ?_
          refine RL.part (fun h23 => ?_) (fun h23 => ?_)
          · skip
            have hgot : (A.1.t.getR y.ps).1 = X.1.t ∧ (A.1.t.getR y.ps).2.2 = true := by rw [A.2]; exact getR_replR h23
            refine RL.move rfl rfl rfl ?_
            refine RL.not (b := true) rfl (congrArg (fun b => some (Value.bool b)) hgot.2) rfl ?_
            refine RL.move rfl rfl rfl ?_
            refine RL.loadA 0 rfl rfl rfl y_ta25 rfl ?_
            refine RL.loadA 4 rfl rfl rfl y_ta25 rfl ?_
            refine RL.call rfl rfl Try.call26 rfl (same_of (s := X.1.t) (C.2.trans hgot.1) rfl X.2 (by omega) (by first | exact .head _ | exact .tail _ (.head _) | exact .tail _ (.tail _ (.head _)) | exact .tail _ (.tail _ (.tail _ (.head _))) | exact .tail _ (.tail _ (.tail _ (.tail _ (.head _)))) | exact .tail _ (.tail _ (.tail _ (.tail _ (.tail _ (.head _))))) | exact .tail _ (.tail _ (.tail _ (.tail _ (.tail _ (.tail _ (.head _)))))) | exact .tail _ (.tail _ (.tail _ (.tail _ (.tail _ (.tail _ (.tail _ (.head _))))))) | exact .tail _ (.tail _ (.tail _ (.tail _ (.tail _ (.tail _ (.tail _ (.tail _ (.head _)))))))) | exact .tail _ (.tail _ (.tail _ (.tail _ (.tail _ (.tail _ (.tail _ (.tail _ (.tail _ (.head _)))))))))) (by first | exact .head _ | exact .tail _ (.head _) | exact .tail _ (.tail _ (.head _)) | exact .tail _ (.tail _ (.tail _ (.head _))) | exact .tail _ (.tail _ (.tail _ (.tail _ (.head _)))) | exact .tail _ (.tail _ (.tail _ (.tail _ (.tail _ (.head _))))) | exact .tail _ (.tail _ (.tail _ (.tail _ (.tail _ (.tail _ (.head _)))))) | exact .tail _ (.tail _ (.tail _ (.tail _ (.tail _ (.tail _ (.tail _ (.head _))))))) | exact .tail _ (.tail _ (.tail _ (.tail _ (.tail _ (.tail _ (.tail _ (.tail _ (.head _)))))))) | exact .tail _ (.tail _ (.tail _ (.tail _ (.tail _ (.tail _ (.tail _ (.tail _ (.tail _ (.head _))))))))))) (fun _ => ?_)
            refine RL.not rfl rfl rfl ?_
            refine RL.pickF rfl rfl rfl rfl ?_
            refine RL.pickT rfl rfl rfl rfl ?_
            refine RL.nil ?_
            refine NX.seq ?_
            refine TR.condF rfl ?_
            refine TR.skip ?_
            refine NX.off ?_
            refine NX.seq ?_
            refine TR.region ?_
            refine RL.move rfl rfl rfl ?_
            refine RL.bin rfl rfl rfl (BinV.add _ rfl (by omega) (by omega)) rfl ?_
            refine RL.assign rfl rfl rfl ?_
            refine RL.nil ?_
            refine NX.roundP (k + 1) (by omega) (by omega) ⟨rfl, rfl, rfl, rfl, rfl, rfl, trivial⟩ (fun w hw => (((hw.drop 0 rfl).drop 0 rfl).drop 0 rfl).facts (fun φ h => .tail _ (.tail _ (.tail _ (h)))))
          · skip
            refine RL.skip rfl rfl rfl ?_
            refine RL.skip rfl rfl rfl ?_
            refine RL.skip rfl rfl rfl ?_
            refine RL.skip rfl rfl rfl ?_
            refine RL.skip rfl rfl rfl ?_
            refine RL.skip rfl rfl rfl ?_
            refine RL.skip rfl rfl rfl ?_
            refine RL.skip rfl rfl rfl ?_
            refine RL.pickF rfl rfl rfl rfl ?_
            refine RL.nil ?_
            refine NX.seq ?_
            refine TR.condF rfl ?_
            refine TR.skip ?_
            refine NX.off ?_
            refine NX.seq ?_
            refine TR.region ?_
            refine RL.move rfl rfl rfl ?_
            refine RL.bin rfl rfl rfl (BinV.add _ rfl (by omega) (by omega)) rfl ?_
            refine RL.assign rfl rfl rfl ?_
            refine RL.nil ?_
            refine NX.roundP (k + 1) (by omega) (by omega) ⟨rfl, rfl, rfl, rfl, rfl, rfl, trivial⟩ (fun w hw => (((hw.drop 0 rfl).drop 0 rfl).drop 0 rfl).facts (fun φ h => .tail _ (.tail _ (.tail _ (h)))))
      · skip
        refine AR.eff [0, 1, 2, 3, 4, 5] 6 [0, 1, 2, 3, 4, 5, 6, 7, 8, 9, 10, 11, 12] ⟨QOne.yes rfl rfl rfl (PV.loadA 4 rfl rfl y_ta25), QOne.yes rfl rfl rfl (PV.move rfl), QOne.yes rfl rfl rfl (PV.move rfl), QOne.yes rfl rfl rfl (PV.indexAddr y_tl48 y_tz22 rfl rfl (by omega) (by omega)), QOne.yes rfl rfl rfl (PV.load1 2 y_ts22 rfl rfl hy), QOne.yes rfl rfl rfl (PV.loadA 3 rfl rfl y_ta25), trivial⟩ rfl rfl rfl rfl rfl rfl rfl (EV.call rfl Try.call25 (refReplace_spec N.2 (by omega) (by first | exact .head _ | exact .tail _ (.head _) | exact .tail _ (.tail _ (.head _)) | exact .tail _ (.tail _ (.tail _ (.head _))) | exact .tail _ (.tail _ (.tail _ (.tail _ (.head _)))) | exact .tail _ (.tail _ (.tail _ (.tail _ (.tail _ (.head _))))) | exact .tail _ (.tail _ (.tail _ (.tail _ (.tail _ (.tail _ (.head _)))))) | exact .tail _ (.tail _ (.tail _ (.tail _ (.tail _ (.tail _ (.tail _ (.head _))))))) | exact .tail _ (.tail _ (.tail _ (.tail _ (.tail _ (.tail _ (.tail _ (.tail _ (.head _)))))))) | exact .tail _ (.tail _ (.tail _ (.tail _ (.tail _ (.tail _ (.tail _ (.tail _ (.tail _ (.head _)))))))))) (by first | exact .head _ | exact .tail _ (.head _) | exact .tail _ (.tail _ (.head _)) | exact .tail _ (.tail _ (.tail _ (.head _))) | exact .tail _ (.tail _ (.tail _ (.tail _ (.head _)))) | exact .tail _ (.tail _ (.tail _ (.tail _ (.tail _ (.head _))))) | exact .tail _ (.tail _ (.tail _ (.tail _ (.tail _ (.tail _ (.head _)))))) | exact .tail _ (.tail _ (.tail _ (.tail _ (.tail _ (.tail _ (.tail _ (.head _))))))) | exact .tail _ (.tail _ (.tail _ (.tail _ (.tail _ (.tail _ (.tail _ (.tail _ (.head _)))))))) | exact .tail _ (.tail _ (.tail _ (.tail _ (.tail _ (.tail _ (.tail _ (.tail _ (.tail _ (.head _)))))))))) (by first | exact hyF | exact .tail _ hyF | exact .tail _ (.tail _ hyF) | exact .tail _ (.tail _ (.tail _ hyF)) | exact .tail _ (.tail _ (.tail _ (.tail _ hyF)))) hyc (by omega))) (fun B => ?_)
        refine AR.done [0, 4, 5, 3, 1, 2] rfl ?_
        apply AR.more [(7, _), (8, _), (9, _)]
        refine AR.eff [7, 8, 9] 11 [0, 1, 2, 3, 4, 5, 6, 7, 8, 9, 10, 11, 12] ⟨QOne.yes rfl rfl rfl (PV.move rfl), QOne.yes rfl rfl rfl (PV.extract rfl rfl), QOne.yes rfl rfl rfl (PV.extract rfl rfl), trivial⟩ rfl rfl rfl rfl rfl rfl rfl (EV.storeA 0 rfl rfl rfl y_tz25 rfl rfl) (fun _ => ?_)
        refine AR.done [8, 7] rfl ?_
        apply AR.more [(12, _)]
        refine AR.last [9, 12] [0, 1, 2, 3, 4, 5, 6, 7, 8, 9, 10, 11, 12] ⟨QOne.yes rfl rfl rfl (PV.extract rfl rfl), QOne.yes rfl rfl rfl (PV.assign rfl), trivial⟩ rfl rfl rfl ?_
        refine NX.sub (E' := [(7, _), (8, _), (9, _), (10, _), (11, _), (12, _), (13, _), (14, _), (15, _), (16, _), (30, _), (31, _)]) ⟨rfl, rfl, rfl, rfl, rfl, rfl, rfl, rfl, rfl, rfl, rfl, rfl, trivial⟩ ?_
        refine NX.seq ?_
        refine TR.seq ?_
        refine TR.seq ?_
        refine TR.region ?_
        have hsA : Small 7 A.1.t := by rw [A.2]; exact Small.replR N.2 X.2 hyl (by omega) (by omega)
        refine RL.move rfl rfl rfl ?_
        refine RL.move rfl rfl rfl ?_
        refine RL.bin rfl rfl rfl (BinV.to (d := false) (BinV.neqB y_tb4) (by simp)) rfl ?_
        refine RL.move rfl rfl rfl ?_
        refine RL.loadA 1 rfl rfl rfl y_ta25 rfl ?_
        refine RL.loadA 0 rfl rfl rfl y_ta25 rfl ?_
        refine RL.call rfl rfl Try.call26 rfl (same_of A.2 B.2 (Small.replR N.2 X.2 hyl (m := 7) (by omega) (by omega)) (by omega) (by first | exact .head _ | exact .tail _ (.head _) | exact .tail _ (.tail _ (.head _)) | exact .tail _ (.tail _ (.tail _ (.head _))) | exact .tail _ (.tail _ (.tail _ (.tail _ (.head _)))) | exact .tail _ (.tail _ (.tail _ (.tail _ (.tail _ (.head _))))) | exact .tail _ (.tail _ (.tail _ (.tail _ (.tail _ (.tail _ (.head _)))))) | exact .tail _ (.tail _ (.tail _ (.tail _ (.tail _ (.tail _ (.tail _ (.head _))))))) | exact .tail _ (.tail _ (.tail _ (.tail _ (.tail _ (.tail _ (.tail _ (.tail _ (.head _)))))))) | exact .tail _ (.tail _ (.tail _ (.tail _ (.tail _ (.tail _ (.tail _ (.tail _ (.tail _ (.head _)))))))))) (by first | exact .head _ | exact .tail _ (.head _) | exact .tail _ (.tail _ (.head _)) | exact .tail _ (.tail _ (.tail _ (.head _))) | exact .tail _ (.tail _ (.tail _ (.tail _ (.head _)))) | exact .tail _ (.tail _ (.tail _ (.tail _ (.tail _ (.head _))))) | exact .tail _ (.tail _ (.tail _ (.tail _ (.tail _ (.tail _ (.head _)))))) | exact .tail _ (.tail _ (.tail _ (.tail _ (.tail _ (.tail _ (.tail _ (.head _))))))) | exact .tail _ (.tail _ (.tail _ (.tail _ (.tail _ (.tail _ (.tail _ (.tail _ (.head _)))))))) | exact .tail _ (.tail _ (.tail _ (.tail _ (.tail _ (.tail _ (.tail _ (.tail _ (.tail _ (.head _))))))))))) (fun _ => ?_)
        refine RL.not rfl rfl rfl ?_
        refine RL.pickF rfl rfl rfl rfl ?_
        refine RL.nil ?_
        refine NX.seq ?_
        refine TR.condF rfl ?_
        refine TR.skip ?_
        refine NX.seq ?_
        refine TR.seq ?_
        refine TR.sub (E' := [(7, _), (8, _), (9, _), (10, _), (11, _), (12, _), (13, _), (14, _), (15, _), (16, _), (30, _), (31, _), (54, _), (55, _), (56, _), (57, _), (58, _), (59, _), (60, _), (61, _), (62, _)]) ⟨rfl, rfl, rfl, rfl, rfl, rfl, rfl, rfl, rfl, rfl, rfl, rfl, rfl, rfl, rfl, rfl, rfl, rfl, rfl, rfl, rfl, trivial⟩ ?_
        refine TR.draw mixed ?_
        apply AR.more [(0, _), (1, _), (2, _), (3, _), (4, _)]
        refine AR.effs [0, 1, 2, 3, 4] [5, 10] [0, 1, 2, 3, 4, 5, 6, 7, 8, 9, 10, 11, 12, 13] ⟨QOne.yes rfl rfl rfl (PV.loadA 1 rfl rfl y_ta25), QOne.yes rfl rfl rfl (PV.move rfl), QOne.yes rfl rfl rfl (PV.move rfl), QOne.yes rfl rfl rfl (PV.indexAddr y_tl48 y_tz22 rfl rfl (by omega) (by omega)), QOne.yes rfl rfl rfl (PV.load1 2 y_ts22 rfl rfl hy), trivial⟩ rfl rfl rfl rfl ⟨EOne.of rfl rfl rfl (EV.call rfl Try.call22 (get_spec (d := 7) hsA (by omega) (by first | exact .head _ | exact .tail _ (.head _) | exact .tail _ (.tail _ (.head _)) | exact .tail _ (.tail _ (.tail _ (.head _))) | exact .tail _ (.tail _ (.tail _ (.tail _ (.head _)))) | exact .tail _ (.tail _ (.tail _ (.tail _ (.tail _ (.head _))))) | exact .tail _ (.tail _ (.tail _ (.tail _ (.tail _ (.tail _ (.head _)))))) | exact .tail _ (.tail _ (.tail _ (.tail _ (.tail _ (.tail _ (.tail _ (.head _))))))) | exact .tail _ (.tail _ (.tail _ (.tail _ (.tail _ (.tail _ (.tail _ (.tail _ (.head _)))))))) | exact .tail _ (.tail _ (.tail _ (.tail _ (.tail _ (.tail _ (.tail _ (.tail _ (.tail _ (.head _)))))))))) (ca := y.oc) (ps := y.ps) (by first | exact hyF | exact .tail _ hyF | exact .tail _ (.tail _ hyF) | exact .tail _ (.tail _ (.tail _ hyF)) | exact .tail _ (.tail _ (.tail _ (.tail _ hyF)))) (by omega))) (fun C => ?_), EOne.of rfl rfl rfl (EV.allocA (Try.zeroValue25)) (fun b24 => ?_), trivial⟩
        · skip
          refine AR.done [0, 4, 3, 1, 2] rfl ?_
          apply AR.more [(6, _), (7, _), (8, _), (9, _)]
          refine AR.eff [6, 7, 8, 9] 10 [0, 1, 2, 3, 4, 5, 6, 7, 8, 9, 10, 11, 12, 13] ⟨QOne.yes rfl rfl rfl (PV.move rfl), QOne.yes rfl rfl rfl (PV.extract rfl rfl), QOne.yes rfl rfl rfl (PV.extract rfl rfl), QOne.yes rfl rfl rfl (PV.extract rfl rfl), trivial⟩ rfl rfl rfl rfl rfl rfl rfl (EV.allocA (Try.zeroValue25)) (fun b25 => ?_)
          refine AR.eff [6, 7, 8, 9] 11 [0, 1, 2, 3, 4, 5, 6, 7, 8, 9, 10, 11, 12, 13] ⟨QOne.yes rfl rfl rfl (PV.move rfl), QOne.yes rfl rfl rfl (PV.extract rfl rfl), QOne.yes rfl rfl rfl (PV.extract rfl rfl), QOne.yes rfl rfl rfl (PV.extract rfl rfl), trivial⟩ rfl rfl rfl rfl rfl rfl rfl (EV.storeA 0 rfl rfl rfl y_tz25 rfl rfl) (fun _ => ?_)
          refine AR.done [7, 6] rfl ?_
          apply AR.more [(12, _), (13, _)]
          refine AR.last [8, 9, 12, 13] [0, 1, 2, 3, 4, 5, 6, 7, 8, 9, 10, 11, 12, 13] ⟨QOne.yes rfl rfl rfl (PV.extract rfl rfl), QOne.yes rfl rfl rfl (PV.extract rfl rfl), QOne.yes rfl rfl rfl (PV.assign rfl), QOne.yes rfl rfl rfl (PV.assign rfl), trivial⟩ rfl rfl rfl ?_
          refine NX.sub (E' := [(7, _), (8, _), (9, _), (10, _), (11, _), (12, _), (13, _), (14, _), (15, _), (16, _), (17, _), (19, _), (30, _), (31, _), (54, _), (55, _), (56, _), (57, _), (58, _), (59, _), (60, _), (61, _), (62, _)]) ⟨rfl, rfl, rfl, rfl, rfl, rfl, rfl, rfl, rfl, rfl, rfl, rfl, rfl, rfl, rfl, rfl, rfl, rfl, rfl, rfl, rfl, rfl, rfl, trivial⟩ ?_
          refine NX.seq ?_
          refine TR.seq ?_
          refine TR.region ?_
          refine RL.move rfl rfl rfl ?_
          refine RL.move rfl rfl rfl ?_
          refine RL.part (fun h26 => ?_) (fun h26 => ?_)
          · skip
            have hgot : (A.1.t.getR y.ps).1 = X.1.t ∧ (A.1.t.getR y.ps).2.2 = true := by rw [A.2]; exact getR_replR h26
            refine RL.move rfl rfl rfl ?_
            refine RL.not (b := true) rfl (congrArg (fun b => some (Value.bool b)) hgot.2) rfl ?_
            refine RL.move rfl rfl rfl ?_
            refine RL.loadA 0 rfl rfl rfl y_ta25 rfl ?_
            refine RL.loadA 4 rfl rfl rfl y_ta25 rfl ?_
            refine RL.call rfl rfl Try.call26 rfl (same_of (s := X.1.t) (C.2.trans hgot.1) rfl X.2 (by omega) (by first | exact .head _ | exact .tail _ (.head _) | exact .tail _ (.tail _ (.head _)) | exact .tail _ (.tail _ (.tail _ (.head _))) | exact .tail _ (.tail _ (.tail _ (.tail _ (.head _)))) | exact .tail _ (.tail _ (.tail _ (.tail _ (.tail _ (.head _))))) | exact .tail _ (.tail _ (.tail _ (.tail _ (.tail _ (.tail _ (.head _)))))) | exact .tail _ (.tail _ (.tail _ (.tail _ (.tail _ (.tail _ (.tail _ (.head _))))))) | exact .tail _ (.tail _ (.tail _ (.tail _ (.tail _ (.tail _ (.tail _ (.tail _ (.head _)))))))) | exact .tail _ (.tail _ (.tail _ (.tail _ (.tail _ (.tail _ (.tail _ (.tail _ (.tail _ (.head _)))))))))) (by first | exact .head _ | exact .tail _ (.head _) | exact .tail _ (.tail _ (.head _)) | exact .tail _ (.tail _ (.tail _ (.head _))) | exact .tail _ (.tail _ (.tail _ (.tail _ (.head _)))) | exact .tail _ (.tail _ (.tail _ (.tail _ (.tail _ (.head _))))) | exact .tail _ (.tail _ (.tail _ (.tail _ (.tail _ (.tail _ (.head _)))))) | exact .tail _ (.tail _ (.tail _ (.tail _ (.tail _ (.tail _ (.tail _ (.head _))))))) | exact .tail _ (.tail _ (.tail _ (.tail _ (.tail _ (.tail _ (.tail _ (.tail _ (.head _)))))))) | exact .tail _ (.tail _ (.tail _ (.tail _ (.tail _ (.tail _ (.tail _ (.tail _ (.tail _ (.head _))))))))))) (fun _ => ?_)
            refine RL.not rfl rfl rfl ?_
            refine RL.pickF rfl rfl rfl rfl ?_
            refine RL.pickT rfl rfl rfl rfl ?_
            refine RL.nil ?_
            refine NX.seq ?_
            refine TR.condF rfl ?_
            refine TR.skip ?_
            refine NX.off ?_
            refine NX.seq ?_
            refine TR.region ?_
            refine RL.move rfl rfl rfl ?_
            refine RL.bin rfl rfl rfl (BinV.add _ rfl (by omega) (by omega)) rfl ?_
            refine RL.assign rfl rfl rfl ?_
            refine RL.nil ?_
            refine NX.roundP (k + 1) (by omega) (by omega) ⟨rfl, rfl, rfl, rfl, rfl, rfl, trivial⟩ (fun w hw => (((hw.drop 0 rfl).drop 0 rfl).drop 0 rfl).facts (fun φ h => .tail _ (.tail _ (.tail _ (h)))))
          · skip
            refine RL.skip rfl rfl rfl ?_
            refine RL.skip rfl rfl rfl ?_
            refine RL.skip rfl rfl rfl ?_
            refine RL.skip rfl rfl rfl ?_
            refine RL.skip rfl rfl rfl ?_
            refine RL.skip rfl rfl rfl ?_
            refine RL.skip rfl rfl rfl ?_
            refine RL.skip rfl rfl rfl ?_
            refine RL.pickF rfl rfl rfl rfl ?_
            refine RL.nil ?_
            refine NX.seq ?_
            refine TR.condF rfl ?_
            refine TR.skip ?_
            refine NX.off ?_
            refine NX.seq ?_
            refine TR.region ?_
            refine RL.move rfl rfl rfl ?_
            refine RL.bin rfl rfl rfl (BinV.add _ rfl (by omega) (by omega)) rfl ?_
            refine RL.assign rfl rfl rfl ?_
            refine RL.nil ?_
            refine NX.roundP (k + 1) (by omega) (by omega) ⟨rfl, rfl, rfl, rfl, rfl, rfl, trivial⟩ (fun w hw => (((hw.drop 0 rfl).drop 0 rfl).drop 0 rfl).facts (fun φ h => .tail _ (.tail _ (.tail _ (h)))))
        · skip
          refine AR.eff [0, 1, 2, 3, 4] 5 [0, 1, 2, 3, 4, 5, 6, 7, 8, 9, 10, 11, 12, 13] ⟨QOne.yes rfl rfl rfl (PV.loadA 2 rfl rfl y_ta25), QOne.yes rfl rfl rfl (PV.move rfl), QOne.yes rfl rfl rfl (PV.move rfl), QOne.yes rfl rfl rfl (PV.indexAddr y_tl48 y_tz22 rfl rfl (by omega) (by omega)), QOne.yes rfl rfl rfl (PV.load1 3 y_ts22 rfl rfl hy), trivial⟩ rfl rfl rfl rfl rfl rfl rfl (EV.call rfl Try.call22 (get_spec (d := 7) hsA (by omega) (by first | exact .head _ | exact .tail _ (.head _) | exact .tail _ (.tail _ (.head _)) | exact .tail _ (.tail _ (.tail _ (.head _))) | exact .tail _ (.tail _ (.tail _ (.tail _ (.head _)))) | exact .tail _ (.tail _ (.tail _ (.tail _ (.tail _ (.head _))))) | exact .tail _ (.tail _ (.tail _ (.tail _ (.tail _ (.tail _ (.head _)))))) | exact .tail _ (.tail _ (.tail _ (.tail _ (.tail _ (.tail _ (.tail _ (.head _))))))) | exact .tail _ (.tail _ (.tail _ (.tail _ (.tail _ (.tail _ (.tail _ (.tail _ (.head _)))))))) | exact .tail _ (.tail _ (.tail _ (.tail _ (.tail _ (.tail _ (.tail _ (.tail _ (.tail _ (.head _)))))))))) (ca := y.oc) (ps := y.ps) (by first | exact hyF | exact .tail _ hyF | exact .tail _ (.tail _ hyF) | exact .tail _ (.tail _ (.tail _ hyF)) | exact .tail _ (.tail _ (.tail _ (.tail _ hyF)))) (by omega))) (fun C => ?_)
          refine AR.done [0, 4, 3, 1, 2] rfl ?_
          apply AR.more [(6, _), (7, _), (8, _), (9, _)]
          refine AR.eff [6, 7, 8, 9] 11 [0, 1, 2, 3, 4, 5, 6, 7, 8, 9, 10, 11, 12, 13] ⟨QOne.yes rfl rfl rfl (PV.move rfl), QOne.yes rfl rfl rfl (PV.extract rfl rfl), QOne.yes rfl rfl rfl (PV.extract rfl rfl), QOne.yes rfl rfl rfl (PV.extract rfl rfl), trivial⟩ rfl rfl rfl rfl rfl rfl rfl (EV.storeA 0 rfl rfl rfl y_tz25 rfl rfl) (fun _ => ?_)
          refine AR.done [7, 6] rfl ?_
          apply AR.more [(12, _), (13, _)]
          refine AR.last [8, 9, 12, 13] [0, 1, 2, 3, 4, 5, 6, 7, 8, 9, 10, 11, 12, 13] ⟨QOne.yes rfl rfl rfl (PV.extract rfl rfl), QOne.yes rfl rfl rfl (PV.extract rfl rfl), QOne.yes rfl rfl rfl (PV.assign rfl), QOne.yes rfl rfl rfl (PV.assign rfl), trivial⟩ rfl rfl rfl ?_
          refine NX.sub (E' := [(7, _), (8, _), (9, _), (10, _), (11, _), (12, _), (13, _), (14, _), (15, _), (16, _), (17, _), (19, _), (30, _), (31, _), (54, _), (55, _), (56, _), (57, _), (58, _), (59, _), (60, _), (61, _), (62, _)]) ⟨rfl, rfl, rfl, rfl, rfl, rfl, rfl, rfl, rfl, rfl, rfl, rfl, rfl, rfl, rfl, rfl, rfl, rfl, rfl, rfl, rfl, rfl, rfl, trivial⟩ ?_
          refine NX.seq ?_
          refine TR.seq ?_
          refine TR.region ?_
          refine RL.move rfl rfl rfl ?_
          refine RL.move rfl rfl rfl ?_
          refine RL.part (fun h27 => ?_) (fun h27 => ?_)
          · skip
            have hgot : (A.1.t.getR y.ps).1 = X.1.t ∧ (A.1.t.getR y.ps).2.2 = true := by rw [A.2]; exact getR_replR h27
            refine RL.move rfl rfl rfl ?_
            refine RL.not (b := true) rfl (congrArg (fun b => some (Value.bool b)) hgot.2) rfl ?_
            refine RL.move rfl rfl rfl ?_
            refine RL.loadA 0 rfl rfl rfl y_ta25 rfl ?_
            refine RL.loadA 4 rfl rfl rfl y_ta25 rfl ?_
            refine RL.call rfl rfl Try.call26 rfl (same_of (s := X.1.t) (C.2.trans hgot.1) rfl X.2 (by omega) (by first | exact .head _ | exact .tail _ (.head _) | exact .tail _ (.tail _ (.head _)) | exact .tail _ (.tail _ (.tail _ (.head _))) | exact .tail _ (.tail _ (.tail _ (.tail _ (.head _)))) | exact .tail _ (.tail _ (.tail _ (.tail _ (.tail _ (.head _))))) | exact .tail _ (.tail _ (.tail _ (.tail _ (.tail _ (.tail _ (.head _)))))) | exact .tail _ (.tail _ (.tail _ (.tail _ (.tail _ (.tail _ (.tail _ (.head _))))))) | exact .tail _ (.tail _ (.tail _ (.tail _ (.tail _ (.tail _ (.tail _ (.tail _ (.head _)))))))) | exact .tail _ (.tail _ (.tail _ (.tail _ (.tail _ (.tail _ (.tail _ (.tail _ (.tail _ (.head _)))))))))) (by first | exact .head _ | exact .tail _ (.head _) | exact .tail _ (.tail _ (.head _)) | exact .tail _ (.tail _ (.tail _ (.head _))) | exact .tail _ (.tail _ (.tail _ (.tail _ (.head _)))) | exact .tail _ (.tail _ (.tail _ (.tail _ (.tail _ (.head _))))) | exact .tail _ (.tail _ (.tail _ (.tail _ (.tail _ (.tail _ (.head _)))))) | exact .tail _ (.tail _ (.tail _ (.tail _ (.tail _ (.tail _ (.tail _ (.head _))))))) | exact .tail _ (.tail _ (.tail _ (.tail _ (.tail _ (.tail _ (.tail _ (.tail _ (.head _)))))))) | exact .tail _ (.tail _ (.tail _ (.tail _ (.tail _ (.tail _ (.tail _ (.tail _ (.tail _ (.head _))))))))))) (fun _ => ?_)
            refine RL.not rfl rfl rfl ?_
            refine RL.pickF rfl rfl rfl rfl ?_
            refine RL.pickT rfl rfl rfl rfl ?_
            refine RL.nil ?_
            refine NX.seq ?_
            refine TR.condF rfl ?_
            refine TR.skip ?_
            refine NX.off ?_
            refine NX.seq ?_
            refine TR.region ?_
            refine RL.move rfl rfl rfl ?_
            refine RL.bin rfl rfl rfl (BinV.add _ rfl (by omega) (by omega)) rfl ?_
            refine RL.assign rfl rfl rfl ?_
            refine RL.nil ?_
            refine NX.roundP (k + 1) (by omega) (by omega) ⟨rfl, rfl, rfl, rfl, rfl, rfl, trivial⟩ (fun w hw => (((hw.drop 0 rfl).drop 0 rfl).drop 0 rfl).facts (fun φ h => .tail _ (.tail _ (.tail _ (h)))))
          · skip
            refine RL.skip rfl rfl rfl ?_
            refine RL.skip rfl rfl rfl ?_
            refine RL.skip rfl rfl rfl ?_
            refine RL.skip rfl rfl rfl ?_
            refine RL.skip rfl rfl rfl ?_
            refine RL.skip rfl rfl rfl ?_
            refine RL.skip rfl rfl rfl ?_
            refine RL.skip rfl rfl rfl ?_
            refine RL.pickF rfl rfl rfl rfl ?_
            refine RL.nil ?_
            refine NX.seq ?_
            refine TR.condF rfl ?_
            refine TR.skip ?_
            refine NX.off ?_
            refine NX.seq ?_
            refine TR.region ?_
            refine RL.move rfl rfl rfl ?_
            refine RL.bin rfl rfl rfl (BinV.add _ rfl (by omega) (by omega)) rfl ?_
            refine RL.assign rfl rfl rfl ?_
            refine RL.nil ?_
            refine NX.roundP (k + 1) (by omega) (by omega) ⟨rfl, rfl, rfl, rfl, rfl, rfl, trivial⟩ (fun w hw => (((hw.drop 0 rfl).drop 0 rfl).drop 0 rfl).facts (fun φ h => .tail _ (.tail _ (.tail _ (h)))))
  · skip
    refine TR.exit ?_
    refine NX.exitThen ?_
    refine NX.exitThen ?_
    refine NX.exitHere ?_
    refine NX.seq ?_
    refine TR.seq ?_
    refine TR.region ?_
    refine RL.call rfl rfl Try.call14 rfl (lives_spec) (fun _ => ?_)
    refine RL.assign rfl rfl rfl ?_
    refine RL.nil ?_
    refine NX.seq ?_
    refine TR.ret ?_
    exact NX.ret1 () rfl rfl rfl (fun w hw => ((((hw.drop 0 rfl).drop 0 rfl).drop 0 rfl).drop 0 rfl).facts (fun φ h => .tail _ (.tail _ (.tail _ (.tail _ (h))))))

end Go.Proofs.Ytnolpmigiboanaa
