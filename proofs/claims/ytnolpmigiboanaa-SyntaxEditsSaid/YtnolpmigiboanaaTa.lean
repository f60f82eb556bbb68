/- Walks of the functions of package syntax and of its reference model. Printed by s07.py. -/
import Derived.Test.YtnolpmigiboanaaBld
import Derived.Test.YtnolpmigiboanaaT9
namespace Go.Proofs.Ytnolpmigiboanaa
open Go.GL Go.GL.Tree
theorem j_bs22_1_0 (x0 : Int) : BuildSV Try.prog 22 3 1 [(0, .int .i64 x0)] [.int .i64 x0] := fun w => by kernel_rfl
theorem j_bs22_2_0_1 (x0 : Int) (x1 : Int) : BuildSV Try.prog 22 3 2 [(0, .int .i64 x0), (1, .int .i64 x1)] [.int .i64 x0, .int .i64 x1] := fun w => by kernel_rfl
theorem j_ta25 : tyAgg Try.prog 25 4 = true := by kernel_rfl
theorem j_tb4 : tyBool Try.prog 4 = true := by kernel_rfl
theorem j_tf25_1 : fieldOff Try.prog 25 1 1 = true := by kernel_rfl
theorem j_ts3 : tyScalar Try.prog 3 = true := by kernel_rfl
theorem j_tstr9 : tyStr Try.prog 9 = true := by kernel_rfl
theorem j_tz25 : tySize Try.prog 25 4 = true := by kernel_rfl
theorem live_ok2 : pathOk exT 2 = true := by decide
theorem live_ok4 : pathOk exT 4 = false := by decide
theorem live_l2 : pathL exT 2 = [2, 0] := by decide
theorem live_get : exT.getR [2] = (exB, 2, true) := by rfl
theorem live_text : exT.text = [97, 43, 32, 49] := by decide
theorem live_count : exT.pre.length = 7 := by decide
theorem live_depth : exT.depth = 3 := by decide
theorem live_get_spec {a : Option Addr} {len cap : Nat} {oa : Option Addr} {ca : Nat} {M : List HP} {F : List Fact} (ht : TreeF exT (nodeV exT a len cap) ∈ F) (ha : ArrF oa (ints [2]) ∈ F) : Ctr Try.prog 22 [nodeV exT a len cap, .slice oa 1 ca] M F {x : TX // x.t = exB} (fun x => .tuple #[x.1.v, I 2, .bool true]) (fun _ => M) (fun x => TreeF x.1.t x.1.v :: F) := by
  have h := get_spec (ps := [2]) (M := M) (ca := ca) exT_small (by omega) ht ha (by decide)
  rw [live_get] at h
  exact h
theorem sameInts_refl {xs : List Int} {oa ob : Option Addr} {ca cb : Nat} {M : List HP} {F : List Fact} (ha : ArrF oa (ints xs) ∈ F) (hb : ArrF ob (ints xs) ∈ F) (hxl : xs.length ≤ 4611686018427387904) : Ctr Try.prog 33 [.slice oa xs.length ca, .slice ob xs.length cb] M F Unit (fun _ => .bool true) (fun _ => M) (fun _ => F) := by
  have h := sameInts_spec (ca := ca) (cb := cb) (M := M) ha hb hxl
  rwa [show decide (xs = xs) = true from by simp] at h

theorem lives_spec {M : List HP} {F : List Fact} : Ctr Try.prog 14 [] M F Unit (fun _ => .bool true) (fun _ => M) (fun _ => F) := by
  refine Ctr.body Try.func14 rfl rfl ?_
  refine TR.seq ?_
  refine TR.region ?_
  refine RL.assign rfl rfl rfl ?_
  refine RL.nil ?_
  refine NX.seq ?_
  refine TR.seq ?_
  refine TR.region ?_
  refine RL.call rfl rfl Try.call43 rfl (example_spec) (fun z => ?_)
  obtain ⟨⟨t0, a, len, cap⟩, hz⟩ := z
  have hz : t0 = exT := hz
  subst hz
  refine RL.allocA rfl (Try.zeroValue25) rfl (fun b1 => ?_)
  refine RL.storeA 0 rfl rfl rfl rfl j_tz25 rfl rfl ?_
  refine RL.nil ?_
  refine NX.seq ?_
  refine TR.seq ?_
  refine TR.region ?_
  refine RL.loadA 0 rfl rfl rfl j_ta25 rfl ?_
  refine RL.call rfl rfl Try.call21 rfl (path_spec (o := 2) exT_small (by omega) (.head _)) (fun z2 => ?_)
  rw [live_ok2, live_l2]
  refine RL.move rfl rfl rfl ?_
  refine RL.extract rfl rfl rfl rfl ?_
  refine RL.extract rfl rfl rfl rfl ?_
  refine RL.assign rfl rfl rfl ?_
  refine RL.assign rfl rfl rfl ?_
  refine RL.nil ?_
  refine NX.seq ?_
  refine TR.seq ?_
  refine TR.region ?_
  refine RL.loadA 0 rfl rfl rfl j_ta25 rfl ?_
  refine RL.call rfl rfl Try.call21 rfl (path_spec (o := 4) exT_small (by omega) (.tail _ (.head _))) (fun z3 => ?_)
  rw [live_ok4]
  refine RL.move rfl rfl rfl ?_
  refine RL.extract rfl rfl rfl rfl ?_
  refine RL.extract rfl rfl rfl rfl ?_
  refine RL.assign rfl rfl rfl ?_
  refine RL.assign rfl rfl rfl ?_
  refine RL.nil ?_
  refine NX.seq ?_
  refine TR.seq ?_
  refine TR.region ?_
  refine RL.loadA 0 rfl rfl rfl j_ta25 rfl ?_
  refine RL.buildSlice rfl rfl (j_bs22_1_0 _) rfl (fun b2 => ?_)
  refine RL.weak (fun w hw => St.boxArr hw) ?_
  refine RL.call rfl rfl Try.call22 rfl (live_get_spec (.tail _ (.tail _ (.tail _ (.head _)))) (.head _)) (fun k => ?_)
  obtain ⟨k, hk⟩ := k
  refine RL.move rfl rfl rfl ?_
  refine RL.extract rfl rfl rfl rfl ?_
  refine RL.extract rfl rfl rfl rfl ?_
  refine RL.extract rfl rfl rfl rfl ?_
  refine RL.allocA rfl (Try.zeroValue25) rfl (fun b3 => ?_)
  refine RL.storeA 0 rfl rfl rfl rfl j_tz25 rfl rfl ?_
  refine RL.assign rfl rfl rfl ?_
  refine RL.assign rfl rfl rfl ?_
  refine RL.nil ?_
  refine NX.seq ?_
  refine TR.seq ?_
  refine TR.region ?_
  refine RL.loadA 1 rfl rfl rfl j_ta25 rfl ?_
  refine RL.call rfl rfl Try.call19 rfl (text_spec (t := exT) (.tail _ (.tail _ (.tail _ (.tail _ (.head _))))) (by have := exT_small.width6 (by omega); omega)) (fun _ => ?_)
  rw [live_text]
  refine RL.bin rfl rfl rfl (BinV.to (d := true) (BinV.eqlS (a := [97, 43, 32, 49]) (b := [97, 43, 32, 49])) (by decide)) rfl ?_
  refine RL.move rfl rfl rfl ?_
  refine RL.loadA 1 rfl rfl rfl j_ta25 rfl ?_
  refine RL.call rfl rfl Try.call44 rfl (count_spec (t := exT) (.tail _ (.tail _ (.tail _ (.tail _ (.head _))))) (by have := exT_small.count6 (by omega); omega)) (fun _ => ?_)
  rw [live_count]
  refine RL.bin rfl rfl rfl (BinV.to (d := true) BinV.eql (by decide)) rfl ?_
  refine RL.pickT rfl rfl rfl rfl ?_
  refine RL.move rfl rfl rfl ?_
  refine RL.loadA 1 rfl rfl rfl j_ta25 rfl ?_
  refine RL.call rfl rfl Try.call45 rfl (depth_spec exT_small (by omega) (.tail _ (.tail _ (.tail _ (.tail _ (.head _)))))) (fun _ => ?_)
  rw [live_depth]
  refine RL.bin rfl rfl rfl (BinV.to (d := true) BinV.eql (by decide)) rfl ?_
  refine RL.pickT rfl rfl rfl rfl ?_
  refine RL.move rfl rfl rfl ?_
  refine RL.move rfl rfl rfl ?_
  refine RL.pickT rfl rfl rfl rfl ?_
  refine RL.move rfl rfl rfl ?_
  refine RL.move rfl rfl rfl ?_
  refine RL.buildSlice rfl rfl (j_bs22_2_0_1 _ _) rfl (fun b4 => ?_)
  refine RL.weak (fun w hw => St.boxArr hw) ?_
  refine RL.call rfl rfl Try.call33 rfl (sameInts_refl (xs := [2, 0]) (.tail _ (.tail _ (.tail _ (.tail _ (.head _))))) (.head _) (by decide)) (fun _ => ?_)
  refine RL.pickT rfl rfl rfl rfl ?_
  refine RL.move rfl rfl rfl ?_
  refine RL.move rfl rfl rfl ?_
  refine RL.not rfl rfl rfl ?_
  refine RL.pickT rfl rfl rfl rfl ?_
  refine RL.move rfl rfl rfl ?_
  refine RL.move rfl rfl rfl ?_
  refine RL.pickT rfl rfl rfl rfl ?_
  refine RL.move rfl rfl rfl ?_
  refine RL.move rfl rfl rfl ?_
  refine RL.bin rfl rfl rfl (BinV.to (d := true) BinV.eql (by decide)) rfl ?_
  refine RL.pickT rfl rfl rfl rfl ?_
  refine RL.move rfl rfl rfl ?_
  refine RL.fieldAddr rfl j_tf25_1 rfl rfl ?_
  refine RL.load1 0 rfl j_ts3 rfl rfl rfl rfl ?_
  refine RL.bin rfl rfl rfl (BinV.to (d := true) BinV.eql (by rw [show k.t = exB from hk]; decide)) rfl ?_
  refine RL.pickT rfl rfl rfl rfl ?_
  refine RL.assign rfl rfl rfl ?_
  refine RL.nil ?_
  refine NX.seq ?_
  refine TR.ret ?_
  exact NX.ret1 () rfl rfl rfl (fun w hw => ((hw.drop 0 rfl).drop 0 rfl).facts (fun φ h => .tail _ (.tail _ (.tail _ (.tail _ (.tail _ (.tail _ (h))))))))

theorem paths_spec {t : Tree} {a : Option Addr} {len cap : Nat} {M : List HP} {F : List Fact} {d : Nat} (hs : Small d t) (hd : d ≤ 8) (ht : TreeF t (nodeV t a len cap) ∈ F) {o : Int} : Ctr Try.prog 11 [nodeV t a len cap, I o] M F Unit (fun _ => .bool true) (fun _ => M) (fun _ => F) := by
  refine Ctr.body Try.func11 rfl rfl ?_
  refine TR.seq ?_
  refine TR.region ?_
  refine RL.boxA rfl rfl rfl (fun b1 => ?_)
  refine RL.assign rfl rfl rfl ?_
  refine RL.nil ?_
  refine NX.seq ?_
  refine TR.seq ?_
  refine TR.seq ?_
  refine TR.region ?_
  refine RL.assign rfl rfl rfl ?_
  refine RL.nil ?_
  refine NX.seq ?_
  refine TR.block ?_
  refine TR.loopP (ι := Nat) (fun k => k ≤ t.width + 3) (fun k => [(1, I o), (2, .pointer (some ⟨b1, 0, none⟩)), (4, .bool false), (5, I ((k : Int) - 2))]) (fun _ => Box b1 25 (nodeC t a len cap) :: M) (fun _ => F) (fun k => t.width + 3 - k) 0 (Nat.zero_le _) ⟨rfl, rfl, rfl, rfl, trivial⟩ (fun w hw => hw) (fun k hk => ?_)
  refine TR.seq ?_
  refine TR.seq ?_
  refine TR.region ?_
  refine RL.move rfl rfl rfl ?_
  refine RL.loadA 0 rfl rfl rfl j_ta25 rfl ?_
  refine RL.call rfl rfl Try.call37 rfl (refText_spec hs hd ht) (fun _ => ?_)
  refine RL.lenStr rfl j_tstr9 rfl rfl ?_
  refine RL.bin rfl rfl rfl BinV.leq rfl ?_
  refine RL.nil ?_
  refine NX.seq ?_
  refine TR.cond rfl (fun h2 => ?_) (fun h2 => ?_)
  · skip
    have hk1 := of_decide_eq_true h2
    have hw1 := hs.width6 hd
    have hw2 : t.width = t.text.length := rfl
    refine TR.skip ?_
    refine NX.seq ?_
    refine TR.seq ?_
    refine TR.block ?_
    refine TR.seq ?_
    refine TR.region ?_
    refine RL.move rfl rfl rfl ?_
    refine RL.assign rfl rfl rfl ?_
    refine RL.nil ?_
    refine NX.seq ?_
    refine TR.seq ?_
    refine TR.seq ?_
    refine TR.region ?_
    refine RL.move rfl rfl rfl ?_
    refine RL.bin rfl rfl rfl BinV.eql rfl ?_
    refine RL.nil ?_
    refine NX.seq ?_
    refine TR.cond rfl (fun h3 => ?_) (fun h3 => ?_)
    · skip
      refine TR.region ?_
      refine RL.move rfl rfl rfl ?_
      refine RL.assign rfl rfl rfl ?_
      refine RL.nil ?_
      refine NX.seq ?_
      refine TR.seq ?_
      refine TR.region ?_
      refine RL.loadA 0 rfl rfl rfl j_ta25 rfl ?_
      refine RL.move rfl rfl rfl ?_
      refine RL.call rfl rfl Try.call21 rfl (path_spec hs hd ht) (fun z => ?_)
      refine RL.move rfl rfl rfl ?_
      refine RL.extract rfl rfl rfl rfl ?_
      refine RL.extract rfl rfl rfl rfl ?_
      refine RL.assign rfl rfl rfl ?_
      refine RL.assign rfl rfl rfl ?_
      refine RL.nil ?_
      refine NX.seq ?_
      refine TR.seq ?_
      refine TR.region ?_
      refine RL.loadA 0 rfl rfl rfl j_ta25 rfl ?_
      refine RL.move rfl rfl rfl ?_
      refine RL.call rfl rfl Try.call38 rfl (refPath_spec hs hd (.tail _ ht)) (fun y => ?_)
      refine RL.move rfl rfl rfl ?_
      refine RL.extract rfl rfl rfl rfl ?_
      refine RL.extract rfl rfl rfl rfl ?_
      refine RL.assign rfl rfl rfl ?_
      refine RL.assign rfl rfl rfl ?_
      refine RL.nil ?_
      refine NX.seq ?_
      refine TR.seq ?_
      refine TR.region ?_
      refine RL.move rfl rfl rfl ?_
      refine RL.move rfl rfl rfl ?_
      refine RL.bin rfl rfl rfl (BinV.to (d := false) (BinV.neqB j_tb4) (by simp)) rfl ?_
      refine RL.move rfl rfl rfl ?_
      refine RL.move rfl rfl rfl ?_
      refine RL.move rfl rfl rfl ?_
      refine RL.call rfl rfl Try.call33 rfl (sameInts_refl (.tail _ (.head _)) (.head _) (by have := hs.pathL6 (o := o) hd; omega)) (fun _ => ?_)
      refine RL.not rfl rfl rfl ?_
      refine RL.pickF rfl rfl rfl rfl ?_
      refine RL.nil ?_
      refine NX.seq ?_
      refine TR.condF rfl ?_
      refine TR.skip ?_
      refine NX.off ?_
      refine NX.seq ?_
      refine TR.region ?_
      refine RL.move rfl rfl rfl ?_
      refine RL.bin rfl rfl rfl (BinV.add _ rfl (by omega) (by omega)) rfl ?_
      refine RL.assign rfl rfl rfl ?_
      refine RL.nil ?_
      refine NX.roundP (k + 1) (by omega) (by omega) ⟨rfl, rfl, rfl, congrArg (fun z => some (I z)) (by simp; omega), trivial⟩ (fun w hw => hw.facts (fun φ h => .tail _ (.tail _ (h))))
    · skip
      refine TR.skip ?_
      refine NX.seq ?_
      refine TR.seq ?_
      refine TR.region ?_
      refine RL.loadA 0 rfl rfl rfl j_ta25 rfl ?_
      refine RL.move rfl rfl rfl ?_
      refine RL.call rfl rfl Try.call21 rfl (path_spec hs hd ht) (fun z => ?_)
      refine RL.move rfl rfl rfl ?_
      refine RL.extract rfl rfl rfl rfl ?_
      refine RL.extract rfl rfl rfl rfl ?_
      refine RL.assign rfl rfl rfl ?_
      refine RL.assign rfl rfl rfl ?_
      refine RL.nil ?_
      refine NX.seq ?_
      refine TR.seq ?_
      refine TR.region ?_
      refine RL.loadA 0 rfl rfl rfl j_ta25 rfl ?_
      refine RL.move rfl rfl rfl ?_
      refine RL.call rfl rfl Try.call38 rfl (refPath_spec hs hd (.tail _ ht)) (fun y => ?_)
      refine RL.move rfl rfl rfl ?_
      refine RL.extract rfl rfl rfl rfl ?_
      refine RL.extract rfl rfl rfl rfl ?_
      refine RL.assign rfl rfl rfl ?_
      refine RL.assign rfl rfl rfl ?_
      refine RL.nil ?_
      refine NX.seq ?_
      refine TR.seq ?_
      refine TR.region ?_
      refine RL.move rfl rfl rfl ?_
      refine RL.move rfl rfl rfl ?_
      refine RL.bin rfl rfl rfl (BinV.to (d := false) (BinV.neqB j_tb4) (by simp)) rfl ?_
      refine RL.move rfl rfl rfl ?_
      refine RL.move rfl rfl rfl ?_
      refine RL.move rfl rfl rfl ?_
      refine RL.call rfl rfl Try.call33 rfl (sameInts_refl (.tail _ (.head _)) (.head _) (by have := hs.pathL6 (o := ((k : Int) - 2)) hd; omega)) (fun _ => ?_)
      refine RL.not rfl rfl rfl ?_
      refine RL.pickF rfl rfl rfl rfl ?_
      refine RL.nil ?_
      refine NX.seq ?_
      refine TR.condF rfl ?_
      refine TR.skip ?_
      refine NX.off ?_
      refine NX.seq ?_
      refine TR.region ?_
      refine RL.move rfl rfl rfl ?_
      refine RL.bin rfl rfl rfl (BinV.add _ rfl (by omega) (by omega)) rfl ?_
      refine RL.assign rfl rfl rfl ?_
      refine RL.nil ?_
      refine NX.roundP (k + 1) (by omega) (by omega) ⟨rfl, rfl, rfl, congrArg (fun z => some (I z)) (by simp; omega), trivial⟩ (fun w hw => hw.facts (fun φ h => .tail _ (.tail _ (h))))
  · skip
    refine TR.exit ?_
    refine NX.exitThen ?_
    refine NX.exitThen ?_
    refine NX.exitHere ?_
    refine NX.seq ?_
    refine TR.seq ?_
    refine TR.region ?_
    refine RL.assign rfl rfl rfl ?_
    refine RL.nil ?_
    refine NX.seq ?_
    refine TR.ret ?_
    exact NX.ret1 () rfl rfl rfl (fun w hw => hw.tail)

theorem law_path {t : Tree} {a : Option Addr} {len cap : Nat} {M : List HP} {F : List Fact} {xs : List Int} {oa : Option Addr} {ca : Nat} {o : Int} (ha : ArrF oa (ints xs) ∈ F) (hxs : IntsOk xs) (ht : TreeF t (nodeV t a len cap) ∈ F) : Ctr Try.prog 3 [.slice oa xs.length ca, nodeV t a len cap, I o] M F Unit (fun _ => .bool true) (fun _ => M) (fun _ => F) := by
  refine Ctr.body Try.func3 rfl rfl ?_
  refine TR.seq ?_
  refine TR.region ?_
  refine RL.boxA rfl rfl rfl (fun b1 => ?_)
  refine RL.assign rfl rfl rfl ?_
  refine RL.nil ?_
  refine NX.seq ?_
  refine TR.seq ?_
  refine TR.region ?_
  refine RL.move rfl rfl rfl ?_
  refine RL.call rfl rfl Try.call12 rfl (Tree_spec ha hxs) (fun x => ?_)
  refine RL.move rfl rfl rfl ?_
  refine RL.call rfl rfl Try.call11 rfl (paths_spec (d := 5) x.2 (by omega) (.head _)) (fun _ => ?_)
  refine RL.move rfl rfl rfl ?_
  refine RL.loadA 0 rfl rfl rfl j_ta25 rfl ?_
  refine RL.call rfl rfl Try.call13 rfl (tidy_spec (d := 4) (.tail _ ht) (by omega) (by omega) rfl) (fun y => ?_)
  refine RL.move rfl rfl rfl ?_
  refine RL.call rfl rfl Try.call11 rfl (paths_spec (d := 4) y.2 (by omega) (.head _)) (fun _ => ?_)
  refine RL.pickT rfl rfl rfl rfl ?_
  refine RL.move rfl rfl rfl ?_
  refine RL.call rfl rfl Try.call14 rfl (lives_spec) (fun _ => ?_)
  refine RL.pickT rfl rfl rfl rfl ?_
  refine RL.assign rfl rfl rfl ?_
  refine RL.nil ?_
  refine NX.seq ?_
  refine TR.ret ?_
  exact NX.ret1 () rfl rfl rfl (fun w hw => hw.tail.facts (fun φ h => .tail _ (.tail _ (h))))

end Go.Proofs.Ytnolpmigiboanaa
