/- Walks of the functions of package syntax and of its reference model. Printed by s07.py. -/
import Derived.Test.YtnolpmigiboanaaSm2
import Derived.Test.YtnolpmigiboanaaTf
namespace Go.Proofs.Ytnolpmigiboanaa
open Go.GL Go.GL.Tree
theorem q_ta25 : tyAgg Try.prog 25 4 = true := by kernel_rfl
theorem q_tl23 : tySlice Try.prog 23 25 = true := by kernel_rfl
theorem q_tstr9 : tyStr Try.prog 9 = true := by kernel_rfl
theorem texts_spec {t : Tree} {a : Option Addr} {len cap : Nat} {M : List HP} {F : List Fact} {d : Nat} (hs : Small d t) (hd : d ≤ 8) (ht : TreeF t (nodeV t a len cap) ∈ F) : Ctr Try.prog 18 [nodeV t a len cap] M F Unit (fun _ => .bool true) (fun _ => M) (fun _ => F) := by
  refine Ctr.body Try.func18 rfl rfl ?_
  refine TR.seq ?_
  refine TR.region ?_
  refine RL.boxA rfl rfl rfl (fun b1 => ?_)
  refine RL.assign rfl rfl rfl ?_
  refine RL.nil ?_
  refine NX.seq ?_
  refine TR.seq ?_
  refine TR.region ?_
  refine RL.loadA 0 rfl rfl rfl q_ta25 rfl ?_
  refine RL.call rfl rfl Try.call37 rfl (refText_spec hs hd ht) (fun _ => ?_)
  refine RL.assign rfl rfl rfl ?_
  refine RL.nil ?_
  refine NX.seq ?_
  refine TR.seq ?_
  refine TR.seq ?_
  refine TR.sub (E' := [(0, _), (1, _), (2, _), (3, _), (4, _), (5, _)]) ⟨rfl, rfl, rfl, rfl, rfl, rfl, trivial⟩ ?_
  refine TR.draw mixed ?_
  apply AR.more [(0, _), (2, _)]
  refine AR.eff [0, 2] 1 [0, 1, 2, 3, 4, 5, 6, 7, 8, 9, 10, 11, 12, 13, 14, 15, 16, 17, 18, 19, 20, 21, 22, 23, 24, 25] ⟨QOne.yes rfl rfl rfl (PV.loadA 0 rfl rfl q_ta25), QOne.yes rfl rfl rfl (PV.move rfl), trivial⟩ rfl rfl rfl rfl rfl rfl rfl (EV.call rfl Try.call19 (text_spec ht (by have := hs.width6 hd; omega))) (fun _ => ?_)
  refine AR.done [0] rfl ?_
  apply AR.more [(3, .bool false), (4, .bool false), (5, _), (7, _), (8, _)]
  refine AR.eff [2, 3, 4, 5, 7, 8] 6 [0, 1, 2, 3, 4, 5, 6, 7, 8, 9, 10, 11, 12, 13, 14, 15, 16, 17, 18, 19, 20, 21, 22, 23, 24, 25] ⟨QOne.yes rfl rfl rfl (PV.move rfl), QOne.yes rfl rfl rfl (PV.bin rfl rfl (BinV.to (d := false) BinV.neqS (by simp))), QOne.yes rfl rfl rfl (PV.move rfl), QOne.yes rfl rfl rfl (PV.loadA 0 rfl rfl q_ta25), QOne.yes rfl rfl rfl (PV.move rfl), QOne.yes rfl rfl rfl (PV.lenStr q_tstr9 rfl), trivial⟩ rfl rfl rfl rfl rfl rfl rfl (EV.call rfl Try.call23 (width_spec ht (by have := hs.width6 hd; omega))) (fun _ => ?_)
  refine AR.done [5, 4, 3, 2] rfl ?_
  apply AR.more [(9, .bool false), (10, .bool false), (11, .bool false), (12, _), (14, _)]
  refine AR.eff [7, 8, 9, 10, 11, 12, 14] 13 [0, 1, 2, 3, 4, 5, 6, 7, 8, 9, 10, 11, 12, 13, 14, 15, 16, 17, 18, 19, 20, 21, 22, 23, 24, 25] ⟨QOne.yes rfl rfl rfl (PV.move rfl), QOne.yes rfl rfl rfl (PV.lenStr q_tstr9 rfl), QOne.yes rfl rfl rfl (PV.bin rfl rfl (BinV.to (d := false) BinV.neq (by simp [Tree.width]))), QOne.yes rfl rfl rfl (PV.pickF rfl rfl), QOne.yes rfl rfl rfl (PV.move rfl), QOne.yes rfl rfl rfl (PV.loadA 0 rfl rfl q_ta25), QOne.yes rfl rfl rfl (PV.loadA 0 rfl rfl q_ta25), trivial⟩ rfl rfl rfl rfl rfl rfl rfl (EV.call rfl Try.call44 (count_spec (by first | exact ht | exact .tail _ ht | exact .tail _ (.tail _ ht) | exact .tail _ (.tail _ (.tail _ ht))) (by have := hs.count6 hd; omega))) (fun _ => ?_)
  refine AR.done [12, 11, 10, 9, 8, 7] rfl ?_
  refine AR.eff [14] 15 [0, 1, 2, 3, 4, 5, 6, 7, 8, 9, 10, 11, 12, 13, 14, 15, 16, 17, 18, 19, 20, 21, 22, 23, 24, 25] ⟨QOne.yes rfl rfl rfl (PV.loadA 0 rfl rfl q_ta25), trivial⟩ rfl rfl rfl rfl rfl rfl rfl (EV.call rfl Try.call48 (nodes_spec hs hd (by first | exact ht | exact .tail _ ht | exact .tail _ (.tail _ ht) | exact .tail _ (.tail _ (.tail _ ht))))) (fun z => ?_)
  refine AR.done [14] rfl ?_
  apply AR.more [(16, _), (17, .bool false), (18, .bool false), (19, .bool false), (20, _), (22, _)]
  refine AR.eff [16, 17, 18, 19, 20, 22] 21 [0, 1, 2, 3, 4, 5, 6, 7, 8, 9, 10, 11, 12, 13, 14, 15, 16, 17, 18, 19, 20, 21, 22, 23, 24, 25] ⟨QOne.yes rfl rfl rfl (PV.lenSlice q_tl23 rfl), QOne.yes rfl rfl rfl (PV.bin rfl rfl (BinV.to (d := false) BinV.neq (by simp))), QOne.yes rfl rfl rfl (PV.pickF rfl rfl), QOne.yes rfl rfl rfl (PV.move rfl), QOne.yes rfl rfl rfl (PV.loadA 0 rfl rfl q_ta25), QOne.yes rfl rfl rfl (PV.loadA 0 rfl rfl q_ta25), trivial⟩ rfl rfl rfl rfl rfl rfl rfl (EV.call rfl Try.call45 (depth_spec hs hd (by first | exact ht | exact .tail _ ht | exact .tail _ (.tail _ ht) | exact .tail _ (.tail _ (.tail _ ht))))) (fun _ => ?_)
  refine AR.done [20, 19, 18, 17, 16] rfl ?_
  refine AR.eff [22] 23 [0, 1, 2, 3, 4, 5, 6, 7, 8, 9, 10, 11, 12, 13, 14, 15, 16, 17, 18, 19, 20, 21, 22, 23, 24, 25] ⟨QOne.yes rfl rfl rfl (PV.loadA 0 rfl rfl q_ta25), trivial⟩ rfl rfl rfl rfl rfl rfl rfl (EV.call rfl Try.call49 (refDepth_spec hs hd (by first | exact ht | exact .tail _ ht | exact .tail _ (.tail _ ht) | exact .tail _ (.tail _ (.tail _ ht))))) (fun _ => ?_)
  refine AR.done [22] rfl ?_
  refine AR.more [(24, .bool false), (25, .bool false)] ?_
  refine AR.last [24, 25] [0, 1, 2, 3, 4, 5, 6, 7, 8, 9, 10, 11, 12, 13, 14, 15, 16, 17, 18, 19, 20, 21, 22, 23, 24, 25] ⟨QOne.yes rfl rfl rfl (PV.bin rfl rfl (BinV.to (d := false) BinV.neq (by simp))), QOne.yes rfl rfl rfl (PV.pickF rfl rfl), trivial⟩ rfl rfl rfl ?_
  refine NX.sub (E' := [(0, _), (1, _), (2, _), (4, _), (5, _), (31, _)]) ⟨rfl, rfl, rfl, rfl, rfl, rfl, trivial⟩ ?_
  refine NX.seq ?_
  refine TR.condF rfl ?_
  refine TR.skip ?_
  refine NX.seq ?_
  refine TR.seq ?_
  refine TR.sub (E' := [(0, _), (1, _), (4, _), (5, _), (31, _)]) ⟨rfl, rfl, rfl, rfl, rfl, trivial⟩ ?_
  refine TR.draw mixed ?_
  apply AR.more [(0, _), (2, _)]
  refine AR.eff [0, 2] 1 [0, 1, 2, 3, 4, 5] ⟨QOne.yes rfl rfl rfl (PV.loadA 0 rfl rfl q_ta25), QOne.yes rfl rfl rfl (PV.loadA 0 rfl rfl q_ta25), trivial⟩ rfl rfl rfl rfl rfl rfl rfl (EV.call rfl Try.call20 (leavesS_spec hs hd (by first | exact ht | exact .tail _ ht | exact .tail _ (.tail _ ht) | exact .tail _ (.tail _ (.tail _ ht)) | exact .tail _ (.tail _ (.tail _ (.tail _ ht)))))) (fun z1 => ?_)
  refine AR.done [0] rfl ?_
  refine AR.eff [2] 3 [0, 1, 2, 3, 4, 5] ⟨QOne.yes rfl rfl rfl (PV.loadA 0 rfl rfl q_ta25), trivial⟩ rfl rfl rfl rfl rfl rfl rfl (EV.call rfl Try.call51 (refLeaves_spec hs hd (by first | exact ht | exact .tail _ ht | exact .tail _ (.tail _ ht) | exact .tail _ (.tail _ (.tail _ ht)) | exact .tail _ (.tail _ (.tail _ (.tail _ ht)))))) (fun z2 => ?_)
  refine AR.done [2] rfl ?_
  refine AR.eff [] 4 [0, 1, 2, 3, 4, 5] trivial rfl rfl rfl rfl rfl rfl rfl (EV.call rfl Try.call50 (sameToks_spec (q := 0) (by first | exact .head _ | exact .tail _ (.head _) | exact .tail _ (.tail _ (.head _))) (by first | exact .head _ | exact .tail _ (.head _) | exact .tail _ (.tail _ (.head _))) (by have := lv_le t; have := hs.count6 hd; omega))) (fun _ => ?_)
  refine AR.more [(5, .bool true)] ?_
  refine AR.last [5] [0, 1, 2, 3, 4, 5] ⟨QOne.yes rfl rfl rfl (PV.assign rfl), trivial⟩ rfl rfl rfl ?_
  refine NX.sub (E' := [(0, _), (1, _), (2, _), (4, _), (5, _), (31, _)]) ⟨rfl, rfl, rfl, rfl, rfl, rfl, trivial⟩ ?_
  refine NX.seq ?_
  refine TR.ret ?_
  exact NX.ret1 () rfl rfl rfl (fun w hw => hw.tail.facts (fun φ h => by simp [h]))

theorem law_text {t : Tree} {a : Option Addr} {len cap : Nat} {M : List HP} {F : List Fact} {xs : List Int} {oa : Option Addr} {ca : Nat} (ha : ArrF oa (ints xs) ∈ F) (hxs : IntsOk xs) (ht : TreeF t (nodeV t a len cap) ∈ F) : Ctr Try.prog 5 [.slice oa xs.length ca, nodeV t a len cap] M F Unit (fun _ => .bool true) (fun _ => M) (fun _ => F) := by
  refine Ctr.body Try.func5 rfl rfl ?_
  refine TR.seq ?_
  refine TR.region ?_
  refine RL.boxA rfl rfl rfl (fun b1 => ?_)
  refine RL.assign rfl rfl rfl ?_
  refine RL.nil ?_
  refine NX.seq ?_
  refine TR.seq ?_
  refine TR.region ?_
  refine RL.move rfl rfl rfl ?_
  refine RL.call rfl rfl Try.call12 rfl (Tree_spec ha hxs) (fun x => ?_)
  refine RL.call rfl rfl Try.call18 rfl (texts_spec x.2 (by omega) (.head _)) (fun _ => ?_)
  refine RL.move rfl rfl rfl ?_
  refine RL.loadA 0 rfl rfl rfl q_ta25 rfl ?_
  refine RL.call rfl rfl Try.call13 rfl (tidy_spec (d := 4) (.tail _ ht) (by omega) (by omega) rfl) (fun y => ?_)
  refine RL.call rfl rfl Try.call18 rfl (texts_spec y.2 (by omega) (.head _)) (fun _ => ?_)
  refine RL.pickT rfl rfl rfl rfl ?_
  refine RL.move rfl rfl rfl ?_
  refine RL.call rfl rfl Try.call14 rfl (lives_spec) (fun _ => ?_)
  refine RL.pickT rfl rfl rfl rfl ?_
  refine RL.assign rfl rfl rfl ?_
  refine RL.nil ?_
  refine NX.seq ?_
  refine TR.ret ?_
  exact NX.ret1 () rfl rfl rfl (fun w hw => hw.tail.facts (fun φ h => .tail _ (.tail _ (h))))

end Go.Proofs.Ytnolpmigiboanaa
