/- Walks of the functions of package syntax and of its reference model. Printed by s07.py. -/
import Derived.Test.YtnolpmigiboanaaSm6
import Derived.Test.YtnolpmigiboanaaTo
namespace Go.Proofs.Ytnolpmigiboanaa
open Go.GL Go.GL.Tree
set_option linter.unusedVariables false
theorem A_bs22_1_0 (x0 : Int) : BuildSV Try.prog 22 3 1 [(0, .int .i64 x0)] [.int .i64 x0] := fun w => by kernel_rfl
theorem A_ni22 : noInt Try.prog 22 = true := by kernel_rfl
theorem A_ta25 : tyAgg Try.prog 25 4 = true := by kernel_rfl
theorem A_te3 : tyElem Try.prog 3 1 8 = true := by kernel_rfl
theorem A_tf25_0 : fieldOff Try.prog 25 0 0 = true := by kernel_rfl
theorem A_tl22 : tySlice Try.prog 22 3 = true := by kernel_rfl
theorem A_ts22 : tyScalar Try.prog 22 = true := by kernel_rfl
theorem A_ts3 : tyScalar Try.prog 3 = true := by kernel_rfl
theorem A_ts92 : tyScalar Try.prog 92 = true := by kernel_rfl
theorem A_tz25 : tySize Try.prog 25 4 = true := by kernel_rfl
theorem A_tz3 : tySize Try.prog 3 1 = true := by kernel_rfl
theorem number_spec {t : Tree} {a : Option Addr} {len cap : Nat} {M : List HP} {F : List Fact} {d : Nat} (hs : Small d t) (hd : d ≤ 8) (ht : TreeF t (nodeV t a len cap) ∈ F) {q : Int} : Ctr Try.prog 31 [nodeV t a len cap, I q] M F {x : TX // x.t = (renum t q).1} (fun x => .tuple #[x.1.v, I (renum t q).2]) (fun _ => M) (fun x => TreeF x.1.t x.1.v :: F) := by
  refine Ctr.body Try.func31 rfl rfl ?_
  refine TR.seq ?_
  refine TR.region ?_
  refine RL.boxA rfl rfl rfl (fun b1 => ?_)
  refine RL.box1 rfl rfl rfl rfl (fun b2 => ?_)
  refine RL.allocA rfl (Try.zeroValue25) rfl (fun b3 => ?_)
  refine RL.assign rfl rfl rfl ?_
  refine RL.nil ?_
  refine NX.seq ?_
  refine TR.seq ?_
  refine TR.region ?_
  refine RL.loadA 2 rfl rfl rfl A_ta25 rfl ?_
  refine RL.call rfl rfl Try.call56 rfl (clone_spec hs (by omega) ht) (fun v => ?_)
  refine RL.storeA 3 rfl rfl rfl rfl A_tz25 rfl rfl ?_
  refine RL.nil ?_
  refine NX.seq ?_
  refine TR.seq ?_
  refine TR.region ?_
  refine RL.alloc1 rfl (Try.zeroValue92) rfl rfl (fun b4 => ?_)
  refine RL.nil ?_
  refine NX.seq ?_
  refine TR.seq ?_
  refine TR.region ?_
  refine RL.makeFunc rfl rfl rfl rfl ?_
  refine RL.store1 0 rfl A_ts92 rfl rfl rfl rfl rfl ?_
  refine RL.nil ?_
  refine NX.seq ?_
  refine TR.seq ?_
  refine TR.region ?_
  refine RL.load1 0 rfl A_ts92 rfl rfl rfl rfl ?_
  refine RL.weak (fun w hw => by
    have h9 : St w (Box b4 92 [(.func (.func 59) #[] #[.pointer (some ⟨b2, 0, none⟩), .pointer (some ⟨b4, 0, none⟩)])] :: OT 25 v.1.t v.1.a v.1.len v.1.cap :: Box b3 25 [I 0, I 0, S [], .slice none 0 0] :: Box b2 3 [I q] :: Box b1 25 v.1.c :: M) F := hw
    have h8 := St.boxSl (n := 1) (size := 4) rfl (by decide) h9.numShuf
    exact (show St w (OwnSl 25 4 (some ⟨b1, 0, none⟩) 1 1 ([] ++ (nodeC v.1.t v.1.a v.1.len v.1.cap ++ [])) :: OT 25 v.1.t v.1.a v.1.len v.1.cap :: Box b2 3 [I q] :: Box b4 92 [(.func (.func 59) #[] #[.pointer (some ⟨b2, 0, none⟩), .pointer (some ⟨b4, 0, none⟩)])] :: Box b3 25 [I 0, I 0, S [], .slice none 0 0] :: M) F from h8)) ?_
  refine RL.callV (fst := []) (cap := [.pointer (some ⟨b2, 0, none⟩), .pointer (some ⟨b4, 0, none⟩)]) rfl rfl rfl Try.call59 rfl (numberV_spec (off := 0) (c1 := []) (by rw [v.2]; exact hs) rfl) (fun _ => ?_)
  refine RL.weak (fun w hw => (show St w (Box b1 25 (nodeC (renum v.1.t q).1 v.1.a v.1.len v.1.cap) :: OT 25 (renum v.1.t q).1 v.1.a v.1.len v.1.cap :: Box b2 3 [I (renum v.1.t q).2] :: Box b4 92 [(.func (.func 59) #[] #[.pointer (some ⟨b2, 0, none⟩), .pointer (some ⟨b4, 0, none⟩)])] :: Box b3 25 [I 0, I 0, S [], .slice none 0 0] :: M) F from St.slBox (by omega) hw)) ?_
  refine RL.nil ?_
  refine NX.seq ?_
  refine TR.seq ?_
  refine TR.sub (E' := [(2, _), (3, _), (4, _)]) ⟨rfl, rfl, rfl, trivial⟩ ?_
  refine TR.draw mixed ?_
  apply AR.more [(0, _), (1, _)]
  refine AR.eff [0, 1] 2 [0, 1, 2, 3] ⟨QOne.yes rfl rfl rfl (PV.loadA 0 rfl rfl A_ta25), QOne.yes rfl rfl rfl (PV.load1 2 A_ts3 rfl rfl rfl), trivial⟩ rfl rfl rfl rfl rfl rfl rfl (EV.storeA 4 rfl rfl rfl A_tz25 rfl rfl) (fun _ => ?_)
  refine AR.done [0] rfl ?_
  apply AR.more [(3, _)]
  refine AR.last [1, 3] [0, 1, 2, 3] ⟨QOne.yes rfl rfl rfl (PV.load1 2 A_ts3 rfl rfl rfl), QOne.yes rfl rfl rfl (PV.assign rfl), trivial⟩ rfl rfl rfl ?_
  refine NX.sub (E' := [(4, _), (5, _)]) ⟨rfl, rfl, trivial⟩ ?_
  refine NX.seq ?_
  refine TR.ret ?_
  refine NX.retC1 (j := 4) rfl rfl rfl rfl A_ta25 (fun w hw => ?_)
  have h9 : St w (Box b1 25 _ :: OT 25 (renum v.1.t q).1 v.1.a v.1.len v.1.cap :: Box b2 3 _ :: Box b4 92 _ :: Box b3 25 _ :: M) F := hw
  refine ⟨⟨⟨(renum v.1.t q).1, v.1.a, v.1.len, v.1.cap⟩, by rw [v.2]⟩, ?_, ((((h9.drop 0 rfl).drop 1 rfl).drop 1 rfl).drop 1 rfl).otKeep⟩
  show Value.tuple #[nodeV (renum v.1.t q).1 v.1.a v.1.len v.1.cap, I (renum v.1.t q).2] = Value.tuple #[nodeV (renum v.1.t q).1 v.1.a v.1.len v.1.cap, I (renum t q).2]
  rw [v.2]

theorem idsS_spec {t : Tree} {a : Option Addr} {len cap : Nat} {M : List HP} {F : List Fact} {d : Nat} (hs : Small d t) (hd : d ≤ 8) (ht : TreeF t (nodeV t a len cap) ∈ F) : Ctr Try.prog 32 [nodeV t a len cap] M F (Option Addr × Nat) (fun i => .slice i.1 t.ids.length i.2) (fun _ => M) (fun i => ArrF i.1 (ints t.ids) :: F) := by
  refine Ctr.bodyM Try.func32 rfl rfl ?_
  refine TR.seq ?_
  refine TR.region ?_
  refine RL.boxA rfl rfl rfl (fun b1 => ?_)
  refine RL.assign rfl rfl rfl ?_
  refine RL.nil ?_
  refine NX.seq ?_
  refine TR.seq ?_
  refine TR.region ?_
  refine RL.alloc1 rfl (Try.zeroValue22) rfl rfl (fun b2 => ?_)
  refine RL.weak (fun w hw => St.slVarNew (e := 3) (size := 1) hw) ?_
  refine RL.nil ?_
  refine NX.seq ?_
  refine TR.seq ?_
  refine TR.seq ?_
  refine TR.region ?_
  refine RL.loadA 1 rfl rfl rfl A_ta25 rfl ?_
  refine RL.call rfl rfl Try.call52 rfl (all_spec (nodeC t a len cap) _ _) (fun bc => ?_)
  refine RL.nil ?_
  refine NX.seq ?_
  refine TR.block ?_
  refine TR.rangeFunc (κ := Nat × Option Addr × Nat) (xs := t.pre) rfl Try.call63 (by simp) nodeEnc_len (all_iter (.tail _ ht) (.head _)) (fun pre => [SlVar 22 3 1 b2 pre.length (ints (pre.map Tree.id))]) (Box b1 25 (nodeC t a len cap) :: M) (fun w hw => hw) (fun pre x args b => [(3, .pointer (some ⟨b2, 0, none⟩)), (4, .pointer (some ⟨b.1, 0, none⟩))]) (fun pre x args b => [Box b.1 25 (argCells args), Box b2 22 [.slice b.2.1 pre.length b.2.2], OwnSl 3 1 b.2.1 pre.length b.2.2 (ints (pre.map Tree.id))]) ?as0 ?bd0 ?ki0
  case as0 =>
    intro l pre x suf args hx he Mi G hG
    obtain ⟨a2, len2, cap2, rfl⟩ := he
    refine TR.region ?_
    refine RL.open (fun w hw => St.exOpen hw) (fun i0 => ?_)
    refine RL.allocA rfl (Try.zeroValue25) rfl (fun b3 => ?_)
    refine RL.storeA 0 rfl rfl rfl rfl A_tz25 rfl rfl ?_
    refine RL.nil ?_
    exact NX.meet (b3, i0.1, i0.2) ⟨rfl, rfl, trivial⟩ (fun w hw => hw)
  case bd0 =>
    intro l pre x suf args i hx he Mi G hG
    obtain ⟨a2, len2, cap2, rfl⟩ := he
    have hp : t.pre.length = pre.length + (suf.length + 1) := by rw [hx]; simp
    have hb2 := hs.count6 hd
    refine TR.block ?_
    refine TR.region ?_
    refine RL.load1 1 rfl A_ts22 rfl rfl rfl rfl ?_
    refine RL.fieldAddr rfl A_tf25_0 rfl rfl ?_
    refine RL.load1 0 rfl A_ts3 rfl rfl rfl rfl ?_
    refine RL.buildSlice rfl rfl (A_bs22_1_0 _) rfl (fun b4 => ?_)
    refine RL.ofGV rfl rfl (GV.append (j := 3) A_tl22 A_ni22 A_te3 rfl rfl rfl (src_box (i := 0) rfl rfl rfl) (by omega) (by omega)) (fun y => ?_)
    refine RL.store1 2 rfl A_ts22 rfl rfl rfl rfl rfl ?_
    refine RL.nil ?_
    refine NX.off ?_
    exact fun aa w _ hw => by
      have h9 := (hw.drop 0 rfl).drop 0 rfl
      have e9 : ints ((pre ++ [x]).map Tree.id) = ints (pre.map Tree.id) ++ [I x.id] := by simp
      have h8 : St w (SlVar 22 3 1 b2 (pre ++ [x]).length (ints ((pre ++ [x]).map Tree.id)) :: Mi) G := St.exClose (y.1, y.2) (by rw [e9, List.length_append]; exact h9)
      exact h8
  case ki0 =>
    intro D
    refine NX.off ?_
    refine NX.seq ?_
    refine TR.seq ?_
    refine TR.region ?_
    refine RL.open (fun w hw => St.exOpen hw.swap) (fun i0 => ?_)
    refine RL.load1 0 rfl A_ts22 rfl rfl rfl rfl ?_
    refine RL.assign rfl rfl rfl ?_
    refine RL.nil ?_
    refine NX.seq ?_
    refine TR.ret ?_
    refine NX.retM 2 (i0.1, i0.2) rfl rfl rfl (by rw [ids_length]) (fun w hw => ?_)
    exact ((hw.drop 0 rfl).keepSl.drop 0 rfl).facts (fun φ h => by
      rcases List.mem_cons.1 h with e | h
      · subst e; exact .head _
      · exact .tail _ (.tail _ h))

theorem bound_spec {n m : Int} {M : List HP} {F : List Fact} (hm : 0 ≤ m) (hm2 : m ≤ 2305843009213693952) (h0 : -9223372036854775808 ≤ n) (h1 : n ≤ 9223372036854775807) : Ctr Try.prog 30 [I n, I m] M F {z : Int // -m ≤ z ∧ z ≤ m} (fun z => I z.1) (fun _ => M) (fun _ => F) := by
  refine Ctr.body Try.func30 rfl rfl ?_
  refine TR.seq ?_
  refine TR.region ?_
  refine RL.assign rfl rfl rfl ?_
  refine RL.nil ?_
  refine NX.seq ?_
  refine TR.seq ?_
  refine TR.region ?_
  refine RL.move rfl rfl rfl ?_
  refine RL.move rfl rfl rfl ?_
  refine RL.bin rfl rfl rfl (BinV.mul _ rfl (by omega) (by omega)) rfl ?_
  refine RL.bin rfl rfl rfl (BinV.add _ rfl (by omega) (by omega)) rfl ?_
  refine RL.call rfl rfl Try.call58 rfl (around_spec (by omega) h0 h1) (fun r => ?_)
  refine RL.move rfl rfl rfl ?_
  have hr := r.2
  refine RL.bin rfl rfl rfl (BinV.sub _ rfl (by omega) (by omega)) rfl ?_
  refine RL.assign rfl rfl rfl ?_
  refine RL.nil ?_
  refine NX.seq ?_
  refine TR.ret ?_
  exact NX.ret1 ⟨r.1 - m, by have := r.2; omega, by have := r.2; omega⟩ rfl rfl rfl (fun w hw => hw)

theorem refEqual_true {t u : Tree} {d : Nat} {a a' : Option Addr} {len cap len' cap' : Nat} {M : List HP} {F : List Fact} (he : eqv t u = true) (hs : Small d t) (hd : d ≤ 8) (ht : TreeF t (nodeV t a len cap) ∈ F) (hu : TreeF u (nodeV u a' len' cap') ∈ F) :
    Ctr Try.prog 29 [nodeV t a len cap, nodeV u a' len' cap'] M F Unit (fun _ => .bool true) (fun _ => M) (fun _ => F) := by
  have h := refEqual_spec (M := M) hs hd ht hu
  rwa [he] at h

set_option maxHeartbeats 1000000 in
theorem law_number {M : List HP} {F : List Fact} {xs : List Int} {oa : Option Addr} {ca : Nat} {o : Int} (ha : ArrF oa (ints xs) ∈ F) (hxs : IntsOk xs) (ho0 : -9223372036854775808 ≤ o) (ho1 : o ≤ 9223372036854775807) : Ctr Try.prog 9 [.slice oa xs.length ca, I o] M F Unit (fun _ => .bool true) (fun _ => M) (fun _ => F) := by
  refine Ctr.body Try.func9 rfl rfl ?_
  refine TR.seq ?_
  refine TR.region ?_
  refine RL.assign rfl rfl rfl ?_
  refine RL.nil ?_
  refine NX.seq ?_
  refine TR.seq ?_
  refine TR.region ?_
  refine RL.move rfl rfl rfl ?_
  refine RL.call rfl rfl Try.call12 rfl (Tree_spec ha hxs) (fun N => ?_)
  refine RL.allocA rfl (Try.zeroValue25) rfl (fun b1 => ?_)
  refine RL.storeA 0 rfl rfl rfl rfl A_tz25 rfl rfl ?_
  refine RL.nil ?_
  refine NX.seq ?_
  refine TR.seq ?_
  refine TR.region ?_
  refine RL.move rfl rfl rfl ?_
  refine RL.call rfl rfl Try.call30 rfl (bound_spec (by omega) (by omega) ho0 ho1) (fun Q => ?_)
  refine RL.assign rfl rfl rfl ?_
  refine RL.nil ?_
  refine NX.seq ?_
  refine TR.seq ?_
  refine TR.region ?_
  refine RL.loadA 0 rfl rfl rfl A_ta25 rfl ?_
  refine RL.move rfl rfl rfl ?_
  refine RL.call rfl rfl Try.call31 rfl (number_spec N.2 (by omega) (by first | exact .head _ | exact .tail _ (.head _) | exact .tail _ (.tail _ (.head _)) | exact .tail _ (.tail _ (.tail _ (.head _))) | exact .tail _ (.tail _ (.tail _ (.tail _ (.head _)))) | exact .tail _ (.tail _ (.tail _ (.tail _ (.tail _ (.head _))))) | exact .tail _ (.tail _ (.tail _ (.tail _ (.tail _ (.tail _ (.head _)))))) | exact .tail _ (.tail _ (.tail _ (.tail _ (.tail _ (.tail _ (.tail _ (.head _))))))) | exact .tail _ (.tail _ (.tail _ (.tail _ (.tail _ (.tail _ (.tail _ (.tail _ (.head _)))))))) | exact .tail _ (.tail _ (.tail _ (.tail _ (.tail _ (.tail _ (.tail _ (.tail _ (.tail _ (.head _))))))))))) (fun A => ?_)
  refine RL.move rfl rfl rfl ?_
  refine RL.extract rfl rfl rfl rfl ?_
  refine RL.extract rfl rfl rfl rfl ?_
  refine RL.allocA rfl (Try.zeroValue25) rfl (fun b2 => ?_)
  refine RL.storeA 0 rfl rfl rfl rfl A_tz25 rfl rfl ?_
  refine RL.assign rfl rfl rfl ?_
  refine RL.nil ?_
  refine NX.seq ?_
  refine TR.seq ?_
  refine TR.region ?_
  refine RL.loadA 1 rfl rfl rfl A_ta25 rfl ?_
  refine RL.move rfl rfl rfl ?_
  refine RL.call rfl rfl Try.call27 rfl (refNumber_spec N.2 (by omega) (by first | exact .head _ | exact .tail _ (.head _) | exact .tail _ (.tail _ (.head _)) | exact .tail _ (.tail _ (.tail _ (.head _))) | exact .tail _ (.tail _ (.tail _ (.tail _ (.head _)))) | exact .tail _ (.tail _ (.tail _ (.tail _ (.tail _ (.head _))))) | exact .tail _ (.tail _ (.tail _ (.tail _ (.tail _ (.tail _ (.head _)))))) | exact .tail _ (.tail _ (.tail _ (.tail _ (.tail _ (.tail _ (.tail _ (.head _))))))) | exact .tail _ (.tail _ (.tail _ (.tail _ (.tail _ (.tail _ (.tail _ (.tail _ (.head _)))))))) | exact .tail _ (.tail _ (.tail _ (.tail _ (.tail _ (.tail _ (.tail _ (.tail _ (.tail _ (.head _))))))))))) (fun B => ?_)
  refine RL.move rfl rfl rfl ?_
  refine RL.extract rfl rfl rfl rfl ?_
  refine RL.extract rfl rfl rfl rfl ?_
  refine RL.allocA rfl (Try.zeroValue25) rfl (fun b3 => ?_)
  refine RL.storeA 0 rfl rfl rfl rfl A_tz25 rfl rfl ?_
  refine RL.assign rfl rfl rfl ?_
  refine RL.nil ?_
  refine NX.seq ?_
  refine TR.seq ?_
  refine TR.region ?_
  have hsA : Small 5 A.1.t := by rw [A.2]; exact N.2.renum _
  have hQ := Q.2
  have hcnt := N.2.count6 (by omega)
  have hids : A.1.t.ids = fromN Q.1 N.1.t.pre.length ∧ (renum N.1.t Q.1).2 = Q.1 + (A.1.t.ids.length : Int) := by
    have h9 := renum_ids N.1.t Q.1 (by omega) (by omega)
    rw [A.2, h9.1, h9.2, fromN_length]
    exact ⟨rfl, rfl⟩
  have hcnA := hsA.count6 (by omega)
  rw [← ids_length] at hcnA
  refine RL.loadA 1 rfl rfl rfl A_ta25 rfl ?_
  refine RL.call rfl rfl Try.call32 rfl (idsS_spec hsA (by omega) (by first | exact .head _ | exact .tail _ (.head _) | exact .tail _ (.tail _ (.head _)) | exact .tail _ (.tail _ (.tail _ (.head _))) | exact .tail _ (.tail _ (.tail _ (.tail _ (.head _)))) | exact .tail _ (.tail _ (.tail _ (.tail _ (.tail _ (.head _))))) | exact .tail _ (.tail _ (.tail _ (.tail _ (.tail _ (.tail _ (.head _)))))) | exact .tail _ (.tail _ (.tail _ (.tail _ (.tail _ (.tail _ (.tail _ (.head _))))))) | exact .tail _ (.tail _ (.tail _ (.tail _ (.tail _ (.tail _ (.tail _ (.tail _ (.head _)))))))) | exact .tail _ (.tail _ (.tail _ (.tail _ (.tail _ (.tail _ (.tail _ (.tail _ (.tail _ (.head _))))))))))) (fun D => ?_)
  refine RL.assign rfl rfl rfl ?_
  refine RL.nil ?_
  refine NX.seq ?_
  refine TR.seq ?_
  refine TR.seq ?_
  refine TR.sub (E' := [(4, _), (5, _), (6, _), (7, _), (8, _), (9, _), (10, _), (11, _)]) ⟨rfl, rfl, rfl, rfl, rfl, rfl, rfl, rfl, trivial⟩ ?_
  refine TR.draw mixed ?_
  apply AR.more [(0, _), (1, _), (2, .bool false), (3, .bool false), (4, _), (5, _)]
  refine AR.eff [0, 1, 2, 3, 4, 5] 6 [0, 1, 2, 3, 4, 5, 6, 7, 8, 9, 10, 11, 12, 13, 14, 15, 16, 17, 18, 19, 20, 21, 22, 23, 24, 25, 26, 27, 28, 29, 30] ⟨QOne.yes rfl rfl rfl (PV.move rfl), QOne.yes rfl rfl rfl (PV.move rfl), QOne.yes rfl rfl rfl (PV.bin rfl rfl (BinV.to (d := false) BinV.neq (by simp))), QOne.yes rfl rfl rfl (PV.move rfl), QOne.yes rfl rfl rfl (PV.loadA 1 rfl rfl A_ta25), QOne.yes rfl rfl rfl (PV.loadA 0 rfl rfl A_ta25), trivial⟩ rfl rfl rfl rfl rfl rfl rfl (EV.call rfl Try.call26 (same_of A.2 B.2 (N.2.renum _) (by omega) (by first | exact .head _ | exact .tail _ (.head _) | exact .tail _ (.tail _ (.head _)) | exact .tail _ (.tail _ (.tail _ (.head _))) | exact .tail _ (.tail _ (.tail _ (.tail _ (.head _)))) | exact .tail _ (.tail _ (.tail _ (.tail _ (.tail _ (.head _))))) | exact .tail _ (.tail _ (.tail _ (.tail _ (.tail _ (.tail _ (.head _)))))) | exact .tail _ (.tail _ (.tail _ (.tail _ (.tail _ (.tail _ (.tail _ (.head _))))))) | exact .tail _ (.tail _ (.tail _ (.tail _ (.tail _ (.tail _ (.tail _ (.tail _ (.head _)))))))) | exact .tail _ (.tail _ (.tail _ (.tail _ (.tail _ (.tail _ (.tail _ (.tail _ (.tail _ (.head _)))))))))) (by first | exact .head _ | exact .tail _ (.head _) | exact .tail _ (.tail _ (.head _)) | exact .tail _ (.tail _ (.tail _ (.head _))) | exact .tail _ (.tail _ (.tail _ (.tail _ (.head _)))) | exact .tail _ (.tail _ (.tail _ (.tail _ (.tail _ (.head _))))) | exact .tail _ (.tail _ (.tail _ (.tail _ (.tail _ (.tail _ (.head _)))))) | exact .tail _ (.tail _ (.tail _ (.tail _ (.tail _ (.tail _ (.tail _ (.head _))))))) | exact .tail _ (.tail _ (.tail _ (.tail _ (.tail _ (.tail _ (.tail _ (.tail _ (.head _)))))))) | exact .tail _ (.tail _ (.tail _ (.tail _ (.tail _ (.tail _ (.tail _ (.tail _ (.tail _ (.head _)))))))))))) (fun _ => ?_)
  refine AR.done [4, 5, 3, 2, 0, 1] rfl ?_
  apply AR.more [(7, .bool false), (8, .bool false), (9, .bool false), (10, _), (11, _)]
  refine AR.eff [7, 8, 9, 10, 11] 12 [0, 1, 2, 3, 4, 5, 6, 7, 8, 9, 10, 11, 12, 13, 14, 15, 16, 17, 18, 19, 20, 21, 22, 23, 24, 25, 26, 27, 28, 29, 30] ⟨QOne.yes rfl rfl rfl (PV.not (b := true) rfl), QOne.yes rfl rfl rfl (PV.pickF rfl rfl), QOne.yes rfl rfl rfl (PV.move rfl), QOne.yes rfl rfl rfl (PV.loadA 1 rfl rfl A_ta25), QOne.yes rfl rfl rfl (PV.loadA 2 rfl rfl A_ta25), trivial⟩ rfl rfl rfl rfl rfl rfl rfl (EV.call rfl Try.call29 (refEqual_true (by rw [A.2]; exact eqv_renum' _ _) hsA (by omega) (by first | exact .head _ | exact .tail _ (.head _) | exact .tail _ (.tail _ (.head _)) | exact .tail _ (.tail _ (.tail _ (.head _))) | exact .tail _ (.tail _ (.tail _ (.tail _ (.head _)))) | exact .tail _ (.tail _ (.tail _ (.tail _ (.tail _ (.head _))))) | exact .tail _ (.tail _ (.tail _ (.tail _ (.tail _ (.tail _ (.head _)))))) | exact .tail _ (.tail _ (.tail _ (.tail _ (.tail _ (.tail _ (.tail _ (.head _))))))) | exact .tail _ (.tail _ (.tail _ (.tail _ (.tail _ (.tail _ (.tail _ (.tail _ (.head _)))))))) | exact .tail _ (.tail _ (.tail _ (.tail _ (.tail _ (.tail _ (.tail _ (.tail _ (.tail _ (.head _)))))))))) (by first | exact .head _ | exact .tail _ (.head _) | exact .tail _ (.tail _ (.head _)) | exact .tail _ (.tail _ (.tail _ (.head _))) | exact .tail _ (.tail _ (.tail _ (.tail _ (.head _)))) | exact .tail _ (.tail _ (.tail _ (.tail _ (.tail _ (.head _))))) | exact .tail _ (.tail _ (.tail _ (.tail _ (.tail _ (.tail _ (.head _)))))) | exact .tail _ (.tail _ (.tail _ (.tail _ (.tail _ (.tail _ (.tail _ (.head _))))))) | exact .tail _ (.tail _ (.tail _ (.tail _ (.tail _ (.tail _ (.tail _ (.tail _ (.head _)))))))) | exact .tail _ (.tail _ (.tail _ (.tail _ (.tail _ (.tail _ (.tail _ (.tail _ (.tail _ (.head _)))))))))))) (fun _ => ?_)
  refine AR.done [10, 11, 9, 8, 7] rfl ?_
  apply AR.more [(13, .bool false), (14, .bool false), (15, .bool false), (16, _), (18, _)]
  refine AR.eff [13, 14, 15, 16, 18] 17 [0, 1, 2, 3, 4, 5, 6, 7, 8, 9, 10, 11, 12, 13, 14, 15, 16, 17, 18, 19, 20, 21, 22, 23, 24, 25, 26, 27, 28, 29, 30] ⟨QOne.yes rfl rfl rfl (PV.not (b := true) rfl), QOne.yes rfl rfl rfl (PV.pickF rfl rfl), QOne.yes rfl rfl rfl (PV.move rfl), QOne.yes rfl rfl rfl (PV.loadA 2 rfl rfl A_ta25), QOne.yes rfl rfl rfl (PV.loadA 2 rfl rfl A_ta25), trivial⟩ rfl rfl rfl rfl rfl rfl rfl (EV.call rfl Try.call32 (idsS_spec N.2 (by omega) (by first | exact .head _ | exact .tail _ (.head _) | exact .tail _ (.tail _ (.head _)) | exact .tail _ (.tail _ (.tail _ (.head _))) | exact .tail _ (.tail _ (.tail _ (.tail _ (.head _)))) | exact .tail _ (.tail _ (.tail _ (.tail _ (.tail _ (.head _))))) | exact .tail _ (.tail _ (.tail _ (.tail _ (.tail _ (.tail _ (.head _)))))) | exact .tail _ (.tail _ (.tail _ (.tail _ (.tail _ (.tail _ (.tail _ (.head _))))))) | exact .tail _ (.tail _ (.tail _ (.tail _ (.tail _ (.tail _ (.tail _ (.tail _ (.head _)))))))) | exact .tail _ (.tail _ (.tail _ (.tail _ (.tail _ (.tail _ (.tail _ (.tail _ (.tail _ (.head _)))))))))))) (fun D2 => ?_)
  refine AR.done [16, 15, 14, 13] rfl ?_
  refine AR.eff [18] 19 [0, 1, 2, 3, 4, 5, 6, 7, 8, 9, 10, 11, 12, 13, 14, 15, 16, 17, 18, 19, 20, 21, 22, 23, 24, 25, 26, 27, 28, 29, 30] ⟨QOne.yes rfl rfl rfl (PV.loadA 2 rfl rfl A_ta25), trivial⟩ rfl rfl rfl rfl rfl rfl rfl (EV.call rfl Try.call34 (refIDs_spec N.2 (by omega) (by first | exact .head _ | exact .tail _ (.head _) | exact .tail _ (.tail _ (.head _)) | exact .tail _ (.tail _ (.tail _ (.head _))) | exact .tail _ (.tail _ (.tail _ (.tail _ (.head _)))) | exact .tail _ (.tail _ (.tail _ (.tail _ (.tail _ (.head _))))) | exact .tail _ (.tail _ (.tail _ (.tail _ (.tail _ (.tail _ (.head _)))))) | exact .tail _ (.tail _ (.tail _ (.tail _ (.tail _ (.tail _ (.tail _ (.head _))))))) | exact .tail _ (.tail _ (.tail _ (.tail _ (.tail _ (.tail _ (.tail _ (.tail _ (.head _)))))))) | exact .tail _ (.tail _ (.tail _ (.tail _ (.tail _ (.tail _ (.tail _ (.tail _ (.tail _ (.head _)))))))))))) (fun D3 => ?_)
  refine AR.done [18] rfl ?_
  refine AR.eff [] 20 [0, 1, 2, 3, 4, 5, 6, 7, 8, 9, 10, 11, 12, 13, 14, 15, 16, 17, 18, 19, 20, 21, 22, 23, 24, 25, 26, 27, 28, 29, 30] trivial rfl rfl rfl rfl rfl rfl rfl (EV.call rfl Try.call33 (sameInts_refl (xs := N.1.t.ids) (by first | exact .head _ | exact .tail _ (.head _) | exact .tail _ (.tail _ (.head _)) | exact .tail _ (.tail _ (.tail _ (.head _))) | exact .tail _ (.tail _ (.tail _ (.tail _ (.head _)))) | exact .tail _ (.tail _ (.tail _ (.tail _ (.tail _ (.head _))))) | exact .tail _ (.tail _ (.tail _ (.tail _ (.tail _ (.tail _ (.head _)))))) | exact .tail _ (.tail _ (.tail _ (.tail _ (.tail _ (.tail _ (.tail _ (.head _))))))) | exact .tail _ (.tail _ (.tail _ (.tail _ (.tail _ (.tail _ (.tail _ (.tail _ (.head _)))))))) | exact .tail _ (.tail _ (.tail _ (.tail _ (.tail _ (.tail _ (.tail _ (.tail _ (.tail _ (.head _)))))))))) (by first | exact .head _ | exact .tail _ (.head _) | exact .tail _ (.tail _ (.head _)) | exact .tail _ (.tail _ (.tail _ (.head _))) | exact .tail _ (.tail _ (.tail _ (.tail _ (.head _)))) | exact .tail _ (.tail _ (.tail _ (.tail _ (.tail _ (.head _))))) | exact .tail _ (.tail _ (.tail _ (.tail _ (.tail _ (.tail _ (.head _)))))) | exact .tail _ (.tail _ (.tail _ (.tail _ (.tail _ (.tail _ (.tail _ (.head _))))))) | exact .tail _ (.tail _ (.tail _ (.tail _ (.tail _ (.tail _ (.tail _ (.tail _ (.head _)))))))) | exact .tail _ (.tail _ (.tail _ (.tail _ (.tail _ (.tail _ (.tail _ (.tail _ (.tail _ (.head _)))))))))) (by have := N.2.count6 (by omega); rw [ids_length]; omega))) (fun _ => ?_)
  apply AR.more [(21, .bool false), (22, .bool false), (23, .bool false), (24, _), (25, _), (26, _), (27, _), (28, _), (29, .bool false), (30, .bool false)]
  refine AR.last [21, 22, 23, 24, 25, 26, 27, 28, 29, 30] [0, 1, 2, 3, 4, 5, 6, 7, 8, 9, 10, 11, 12, 13, 14, 15, 16, 17, 18, 19, 20, 21, 22, 23, 24, 25, 26, 27, 28, 29, 30] ⟨QOne.yes rfl rfl rfl (PV.not (b := true) rfl), QOne.yes rfl rfl rfl (PV.pickF rfl rfl), QOne.yes rfl rfl rfl (PV.move rfl), QOne.yes rfl rfl rfl (PV.move rfl), QOne.yes rfl rfl rfl (PV.move rfl), QOne.yes rfl rfl rfl (PV.move rfl), QOne.yes rfl rfl rfl (PV.lenSlice A_tl22 rfl), QOne.yes rfl rfl rfl (PV.bin rfl rfl (BinV.add _ rfl (by omega) (by omega))), QOne.yes rfl rfl rfl (PV.bin rfl rfl (BinV.to (d := false) BinV.neq (by simp [hids.2]))), QOne.yes rfl rfl rfl (PV.pickF rfl rfl), trivial⟩ rfl rfl rfl ?_
  refine NX.sub (E' := [(4, _), (6, _), (11, _), (61, _)]) ⟨rfl, rfl, rfl, rfl, trivial⟩ ?_
  refine NX.seq ?_
  refine TR.condF rfl ?_
  refine TR.skip ?_
  refine NX.seq ?_
  refine TR.seq ?_
  refine TR.seq ?_
  refine TR.region ?_
  refine RL.assign rfl rfl rfl ?_
  refine RL.nil ?_
  refine NX.seq ?_
  refine TR.block ?_
  refine TR.loopP (ι := Nat) (fun k => k ≤ A.1.t.ids.length) (fun k => [(4, .bool false), (6, I Q.1), (11, .slice D.1 A.1.t.ids.length D.2), (12, I k)]) (fun _ => M) (fun _ => ArrF D.1 (ints A.1.t.ids) :: F) (fun k => A.1.t.ids.length - k) 0 (Nat.zero_le _) ⟨rfl, rfl, rfl, rfl, trivial⟩ (fun w hw => ((((hw.drop 0 rfl).drop 0 rfl).drop 0 rfl).facts (fun φ h => by
    rcases List.mem_cons.1 h with e | h
    · subst e; simp
    · simp [h]))) (fun k hk => ?_)
  refine TR.seq ?_
  refine TR.seq ?_
  refine TR.region ?_
  refine RL.move rfl rfl rfl ?_
  refine RL.move rfl rfl rfl ?_
  refine RL.lenSlice rfl A_tl22 rfl rfl ?_
  refine RL.bin rfl rfl rfl BinV.lss rfl ?_
  refine RL.nil ?_
  refine NX.seq ?_
  refine TR.cond rfl (fun h4 => ?_) (fun h4 => ?_)
  · skip
    have hk1 : k < A.1.t.ids.length := by have := of_decide_eq_true h4; omega
    have hget : A.1.t.ids[k] = Q.1 + (k : Int) := (List.getElem_of_eq hids.1 hk1).trans (fromN_get _ _ _ _)
    refine TR.openP (open_arr (oa := D.1) (xs := ints A.1.t.ids) (.head _) (ints_ne (by omega))) (fun pq hpa => ?_)
    refine TR.skip ?_
    refine NX.seq ?_
    refine TR.seq ?_
    refine TR.block ?_
    refine TR.seq ?_
    refine TR.region ?_
    refine RL.move rfl rfl rfl ?_
    refine RL.move rfl rfl rfl ?_
    refine RL.indexAddr rfl A_tl22 A_tz3 (congrArg (fun a => some (Value.slice a _ _)) hpa) rfl (by omega) (by omega) rfl ?_
    refine RL.loadF rfl rfl (fun w K hF => run_loadCell1 (j := (k : Int).toNat * 1) (v := I A.1.t.ids[k]) (hF _ (.head _)) A_ts3 (by simp [hk1])) rfl ?_
    refine RL.move rfl rfl rfl ?_
    refine RL.move rfl rfl rfl ?_
    refine RL.bin rfl rfl rfl (BinV.add _ rfl (by omega) (by omega)) rfl ?_
    refine RL.bin rfl rfl rfl (BinV.to (d := false) BinV.neq (by simp [hget])) rfl ?_
    refine RL.nil ?_
    refine NX.seq ?_
    refine TR.condF rfl ?_
    refine TR.skip ?_
    refine NX.off ?_
    refine NX.seq ?_
    refine TR.region ?_
    refine RL.move rfl rfl rfl ?_
    refine RL.bin rfl rfl rfl (BinV.add _ rfl (by omega) (by omega)) rfl ?_
    refine RL.assign rfl rfl rfl ?_
    refine RL.nil ?_
    refine NX.roundP (k + 1) (by omega) (by omega) ⟨rfl, rfl, rfl, rfl, trivial⟩ (fun w hw => hw.facts (fun φ h => .tail _ h))
  · skip
    refine TR.exit ?_
    refine NX.exitThen ?_
    refine NX.exitThen ?_
    refine NX.exitHere ?_
    refine NX.seq ?_
    refine TR.seq ?_
    refine TR.region ?_
    refine RL.call rfl rfl Try.call14 rfl (lives_spec) (fun _ => ?_)
    refine RL.assign rfl rfl rfl ?_
    refine RL.nil ?_
    refine NX.seq ?_
    refine TR.ret ?_
    exact NX.ret1 () rfl rfl rfl (fun w hw => hw.facts (fun φ h => .tail _ h))

end Go.Proofs.Ytnolpmigiboanaa
