/- Walks of the functions of package syntax and of its reference model. Printed by s07.py. -/
import Derived.Test.YtnolpmigiboanaaSm2
import Derived.Test.YtnolpmigiboanaaTd
import Derived.Test.YtnolpmigiboanaaTa
namespace Go.Proofs.Ytnolpmigiboanaa
open Go.GL Go.GL.Tree
theorem n_ta25 : tyAgg Try.prog 25 4 = true := by kernel_rfl
theorem n_tb4 : tyBool Try.prog 4 = true := by kernel_rfl
theorem n_tz25 : tySize Try.prog 25 4 = true := by kernel_rfl
theorem same_of {s t u : Tree} {d : Nat} {a a' : Option Addr} {len cap len' cap' : Nat} {M : List HP} {F : List Fact} (et : t = s) (eu : u = s) (hs : Small d s) (hd : d ≤ 8) (ht : TreeF t (nodeV t a len cap) ∈ F) (hu : TreeF u (nodeV u a' len' cap') ∈ F) :
    Ctr Try.prog 26 [nodeV t a len cap, nodeV u a' len' cap'] M F Unit (fun _ => .bool true) (fun _ => M) (fun _ => F) := by
  subst et eu
  exact same_spec hs hd ht hu

theorem gets_spec {t : Tree} {a : Option Addr} {len cap : Nat} {M : List HP} {F : List Fact} {d : Nat} (hs : Small d t) (hd : d ≤ 8) (ht : TreeF t (nodeV t a len cap) ∈ F) {ps : List Int} {oa : Option Addr} {ca : Nat} (ha : ArrF oa (ints ps) ∈ F) (hps : ps.length ≤ 4611686018427387904) : Ctr Try.prog 16 [nodeV t a len cap, .slice oa ps.length ca] M F Unit (fun _ => .bool true) (fun _ => M) (fun _ => F) := by
  refine Ctr.body Try.func16 rfl rfl ?_
  refine TR.seq ?_
  refine TR.region ?_
  refine RL.boxA rfl rfl rfl (fun b1 => ?_)
  refine RL.assign rfl rfl rfl ?_
  refine RL.nil ?_
  refine NX.seq ?_
  refine TR.seq ?_
  refine TR.region ?_
  refine RL.loadA 0 rfl rfl rfl n_ta25 rfl ?_
  refine RL.move rfl rfl rfl ?_
  refine RL.call rfl rfl Try.call22 rfl (get_spec hs hd ht ha hps) (fun x => ?_)
  refine RL.move rfl rfl rfl ?_
  refine RL.extract rfl rfl rfl rfl ?_
  refine RL.extract rfl rfl rfl rfl ?_
  refine RL.extract rfl rfl rfl rfl ?_
  refine RL.allocA rfl (Try.zeroValue25) rfl (fun b2 => ?_)
  refine RL.storeA 0 rfl rfl rfl rfl n_tz25 rfl rfl ?_
  refine RL.assign rfl rfl rfl ?_
  refine RL.assign rfl rfl rfl ?_
  refine RL.nil ?_
  refine NX.seq ?_
  refine TR.seq ?_
  refine TR.region ?_
  refine RL.loadA 1 rfl rfl rfl n_ta25 rfl ?_
  refine RL.move rfl rfl rfl ?_
  refine RL.call rfl rfl Try.call47 rfl (refGet_spec hs hd (.tail _ ht) (.tail _ ha) hps) (fun y => ?_)
  refine RL.move rfl rfl rfl ?_
  refine RL.extract rfl rfl rfl rfl ?_
  refine RL.extract rfl rfl rfl rfl ?_
  refine RL.extract rfl rfl rfl rfl ?_
  refine RL.allocA rfl (Try.zeroValue25) rfl (fun b3 => ?_)
  refine RL.storeA 0 rfl rfl rfl rfl n_tz25 rfl rfl ?_
  refine RL.assign rfl rfl rfl ?_
  refine RL.assign rfl rfl rfl ?_
  refine RL.nil ?_
  refine NX.seq ?_
  refine TR.seq ?_
  refine TR.region ?_
  refine RL.move rfl rfl rfl ?_
  refine RL.move rfl rfl rfl ?_
  refine RL.bin rfl rfl rfl (BinV.to (d := true) (BinV.eqlB n_tb4) (by simp)) rfl ?_
  refine RL.move rfl rfl rfl ?_
  refine RL.move rfl rfl rfl ?_
  refine RL.move rfl rfl rfl ?_
  refine RL.bin rfl rfl rfl (BinV.to (d := true) BinV.eql (by simp)) rfl ?_
  refine RL.pickT rfl rfl rfl rfl ?_
  refine RL.move rfl rfl rfl ?_
  refine RL.loadA 1 rfl rfl rfl n_ta25 rfl ?_
  refine RL.loadA 0 rfl rfl rfl n_ta25 rfl ?_
  refine RL.call rfl rfl Try.call26 rfl (same_of x.2 y.2 (hs.getR ps) hd (.tail _ (.head _)) (.head _)) (fun _ => ?_)
  refine RL.pickT rfl rfl rfl rfl ?_
  refine RL.assign rfl rfl rfl ?_
  refine RL.nil ?_
  refine NX.seq ?_
  refine TR.ret ?_
  exact NX.ret1 () rfl rfl rfl (fun w hw => (((hw.drop 0 rfl).drop 0 rfl).drop 0 rfl).facts (fun φ h => .tail _ (.tail _ (h))))

theorem law_get {xs ys zs : List Int} {oa ob oc : Option Addr} {ca cb cc : Nat} {M : List HP} {F : List Fact} (ha : ArrF oa (ints xs) ∈ F) (hxs : IntsOk xs) (hb : ArrF ob (ints ys) ∈ F) (hys : IntsOk ys) (hc : ArrF oc (ints zs) ∈ F) (hzc : zs.length ≤ cc) (hzl : zs.length ≤ 9223372036854775807) : Ctr Try.prog 4 [.slice oa xs.length ca, .slice ob ys.length cb, .slice oc zs.length cc] M F Unit (fun _ => .bool true) (fun _ => M) (fun _ => F) := by
  refine Ctr.body Try.func4 rfl rfl ?_
  refine TR.seq ?_
  refine TR.region ?_
  refine RL.assign rfl rfl rfl ?_
  refine RL.nil ?_
  refine NX.seq ?_
  refine TR.seq ?_
  refine TR.region ?_
  refine RL.move rfl rfl rfl ?_
  refine RL.call rfl rfl Try.call12 rfl (Tree_spec ha hxs) (fun x => ?_)
  refine RL.allocA rfl (Try.zeroValue25) rfl (fun b1 => ?_)
  refine RL.storeA 0 rfl rfl rfl rfl n_tz25 rfl rfl ?_
  refine RL.nil ?_
  refine NX.seq ?_
  refine TR.seq ?_
  refine TR.region ?_
  refine RL.loadA 0 rfl rfl rfl n_ta25 rfl ?_
  refine RL.move rfl rfl rfl ?_
  refine RL.call rfl rfl Try.call15 rfl (route_spec x.2 (by omega) (.head _) (.tail _ hb) hys) (fun q => ?_)
  refine RL.assign rfl rfl rfl ?_
  refine RL.nil ?_
  refine NX.seq ?_
  refine TR.seq ?_
  refine TR.sub (E' := [(0, _), (1, _), (2, _), (7, _), (8, _), (9, _), (10, _), (11, _), (12, _), (13, _)]) ⟨rfl, rfl, rfl, rfl, rfl, rfl, rfl, rfl, rfl, rfl, trivial⟩ ?_
  refine TR.draw mixed ?_
  apply AR.more [(0, _), (1, _)]
  refine AR.eff [0, 1] 2 [0, 1, 2, 3, 4, 5, 6, 7, 8, 9, 10, 11, 12] ⟨QOne.yes rfl rfl rfl (PV.loadA 0 rfl rfl n_ta25), QOne.yes rfl rfl rfl (PV.move rfl), trivial⟩ rfl rfl rfl rfl rfl rfl rfl (EV.call rfl Try.call16 (gets_spec x.2 (by omega) (.tail _ (.head _)) (.head _) (by have := q.2.1; omega))) (fun _ => ?_)
  refine AR.done [0, 1] rfl ?_
  apply AR.more [(3, .bool true), (4, _), (5, _)]
  refine AR.eff [3, 4, 5] 6 [0, 1, 2, 3, 4, 5, 6, 7, 8, 9, 10, 11, 12] ⟨QOne.yes rfl rfl rfl (PV.move rfl), QOne.yes rfl rfl rfl (PV.loadA 0 rfl rfl n_ta25), QOne.yes rfl rfl rfl (PV.move rfl), trivial⟩ rfl rfl rfl rfl rfl rfl rfl (EV.call rfl Try.call17 (Ints_spec (m := 4) (.tail _ (.tail _ hc)) hzc hzl (by omega))) (fun r => ?_)
  refine AR.done [5, 3] rfl ?_
  refine AR.eff [4] 7 [0, 1, 2, 3, 4, 5, 6, 7, 8, 9, 10, 11, 12] ⟨QOne.yes rfl rfl rfl (PV.loadA 0 rfl rfl n_ta25), trivial⟩ rfl rfl rfl rfl rfl rfl rfl (EV.call rfl Try.call16 (gets_spec x.2 (by omega) (.tail _ (.tail _ (.head _))) (.head _) (by rw [List.length_take]; omega))) (fun _ => ?_)
  refine AR.done [4] rfl ?_
  refine AR.more [(8, .bool true), (9, .bool true)] ?_
  refine AR.eff [8, 9] 10 [0, 1, 2, 3, 4, 5, 6, 7, 8, 9, 10, 11, 12] ⟨QOne.yes rfl rfl rfl (PV.pickT rfl rfl), QOne.yes rfl rfl rfl (PV.move rfl), trivial⟩ rfl rfl rfl rfl rfl rfl rfl (EV.call rfl Try.call14 (lives_spec)) (fun _ => ?_)
  refine AR.done [9, 8] rfl ?_
  refine AR.more [(11, .bool true), (12, .bool true)] ?_
  refine AR.last [11, 12] [0, 1, 2, 3, 4, 5, 6, 7, 8, 9, 10, 11, 12] ⟨QOne.yes rfl rfl rfl (PV.pickT rfl rfl), QOne.yes rfl rfl rfl (PV.assign rfl), trivial⟩ rfl rfl rfl ?_
  refine NX.sub (E' := [(0, _), (1, _), (6, _), (7, _), (9, _), (10, _), (11, _), (12, _), (13, _)]) ⟨rfl, rfl, rfl, rfl, rfl, rfl, rfl, rfl, rfl, trivial⟩ ?_
  refine NX.seq ?_
  refine TR.ret ?_
  exact NX.ret1 () rfl rfl rfl (fun w hw => hw.tail.facts (fun φ h => .tail _ (.tail _ (.tail _ (h)))))

end Go.Proofs.Ytnolpmigiboanaa
