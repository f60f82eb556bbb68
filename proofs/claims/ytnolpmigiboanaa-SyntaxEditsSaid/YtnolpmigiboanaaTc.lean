/- Walks of the functions of package syntax and of its reference model. Printed by s07.py. -/
import Derived.Test.YtnolpmigiboanaaSm2
import Derived.Test.YtnolpmigiboanaaTb
namespace Go.Proofs.Ytnolpmigiboanaa
open Go.GL Go.GL.Tree
theorem l_ni22 : noInt Try.prog 22 = true := by kernel_rfl
theorem l_ta25 : tyAgg Try.prog 25 4 = true := by kernel_rfl
theorem l_te3 : tyElem Try.prog 3 1 8 = true := by kernel_rfl
theorem l_tl22 : tySlice Try.prog 22 3 = true := by kernel_rfl
theorem l_tz3 : tySize Try.prog 3 1 = true := by kernel_rfl
theorem refEqual_same {t : Tree} {d : Nat} {a a' : Option Addr} {len cap len' cap' : Nat} {M : List HP} {F : List Fact} (hs : Small d t) (hd : d ≤ 8) (ht : TreeF t (nodeV t a len cap) ∈ F) (hu : TreeF t (nodeV t a' len' cap') ∈ F) :
    Ctr Try.prog 29 [nodeV t a len cap, nodeV t a' len' cap'] M F Unit (fun _ => .bool true) (fun _ => M) (fun _ => F) := by
  have h := refEqual_spec (M := M) hs hd ht hu
  rwa [eqv_refl] at h

theorem same_spec {t : Tree} {d : Nat} {a a' : Option Addr} {len cap len' cap' : Nat} {M : List HP} {F : List Fact} (hs : Small d t) (hd : d ≤ 8) (ht : TreeF t (nodeV t a len cap) ∈ F) (hu : TreeF t (nodeV t a' len' cap') ∈ F) : Ctr Try.prog 26 [nodeV t a len cap, nodeV t a' len' cap'] M F Unit (fun _ => .bool true) (fun _ => M) (fun _ => F) := by
  refine Ctr.body Try.func26 rfl rfl ?_
  refine TR.seq ?_
  refine TR.region ?_
  refine RL.boxA rfl rfl rfl (fun b1 => ?_)
  refine RL.boxA rfl rfl rfl (fun b2 => ?_)
  refine RL.assign rfl rfl rfl ?_
  refine RL.nil ?_
  refine NX.seq ?_
  refine TR.seq ?_
  refine TR.sub (E' := [(2, _), (3, _)]) ⟨rfl, rfl, trivial⟩ ?_
  refine TR.draw mixed ?_
  apply AR.more [(0, _), (1, _)]
  refine AR.eff [0, 1] 2 [0, 1, 2, 3, 4, 5, 6, 7, 8, 9, 10] ⟨QOne.yes rfl rfl rfl (PV.loadA 1 rfl rfl l_ta25), QOne.yes rfl rfl rfl (PV.loadA 0 rfl rfl l_ta25), trivial⟩ rfl rfl rfl rfl rfl rfl rfl (EV.call rfl Try.call29 (refEqual_same hs hd ht hu)) (fun _ => ?_)
  refine AR.done [0, 1] rfl ?_
  apply AR.more [(3, .bool true), (4, _), (6, _)]
  refine AR.eff [3, 4, 6] 5 [0, 1, 2, 3, 4, 5, 6, 7, 8, 9, 10] ⟨QOne.yes rfl rfl rfl (PV.move rfl), QOne.yes rfl rfl rfl (PV.loadA 1 rfl rfl l_ta25), QOne.yes rfl rfl rfl (PV.loadA 0 rfl rfl l_ta25), trivial⟩ rfl rfl rfl rfl rfl rfl rfl (EV.call rfl Try.call34 (refIDs_spec hs hd (by first | exact ht | exact .tail _ ht | exact .tail _ (.tail _ ht) | exact .tail _ (.tail _ (.tail _ ht)) | exact .tail _ (.tail _ (.tail _ (.tail _ ht))) | exact .tail _ (.tail _ (.tail _ (.tail _ (.tail _ ht)))) | exact .tail _ (.tail _ (.tail _ (.tail _ (.tail _ (.tail _ ht)))))))) (fun z5 => ?_)
  refine AR.done [4, 3] rfl ?_
  refine AR.eff [6] 7 [0, 1, 2, 3, 4, 5, 6, 7, 8, 9, 10] ⟨QOne.yes rfl rfl rfl (PV.loadA 0 rfl rfl l_ta25), trivial⟩ rfl rfl rfl rfl rfl rfl rfl (EV.call rfl Try.call34 (refIDs_spec hs hd (by first | exact hu | exact .tail _ hu | exact .tail _ (.tail _ hu) | exact .tail _ (.tail _ (.tail _ hu)) | exact .tail _ (.tail _ (.tail _ (.tail _ hu))) | exact .tail _ (.tail _ (.tail _ (.tail _ (.tail _ hu)))) | exact .tail _ (.tail _ (.tail _ (.tail _ (.tail _ (.tail _ hu)))))))) (fun z7 => ?_)
  refine AR.done [6] rfl ?_
  refine AR.eff [] 8 [0, 1, 2, 3, 4, 5, 6, 7, 8, 9, 10] trivial rfl rfl rfl rfl rfl rfl rfl (EV.call rfl Try.call33 (sameInts_refl (by first | exact .head _ | exact .tail _ (.head _) | exact .tail _ (.tail _ (.head _))) (by first | exact .head _ | exact .tail _ (.head _) | exact .tail _ (.tail _ (.head _))) (by have := hs.count6 hd; simp [Tree.ids]; omega))) (fun _ => ?_)
  refine AR.more [(9, .bool true), (10, .bool true)] ?_
  refine AR.last [9, 10] [0, 1, 2, 3, 4, 5, 6, 7, 8, 9, 10] ⟨QOne.yes rfl rfl rfl (PV.pickT rfl rfl), QOne.yes rfl rfl rfl (PV.assign rfl), trivial⟩ rfl rfl rfl ?_
  refine NX.sub (E' := [(4, _)]) ⟨rfl, trivial⟩ ?_
  refine NX.seq ?_
  refine TR.ret ?_
  refine NX.ret1 () rfl rfl rfl (fun w hw => hw.tail.tail.facts (fun φ h => .tail _ (.tail _ (h))))

theorem Ints_spec {xs : List Int} {oa : Option Addr} {ca m : Nat} {M : List HP} {F : List Fact} (ha : ArrF oa (ints xs) ∈ F) (hca : xs.length ≤ ca) (hxl : xs.length ≤ 9223372036854775807) (hm : m ≤ 1000) : Ctr Try.prog 17 [.slice oa xs.length ca, I m] M F {z : Option Addr × Nat // (xs.take m).length ≤ z.2} (fun z => .slice z.1.1 (xs.take m).length z.1.2) (fun _ => M) (fun z => ArrF z.1.1 (ints (xs.take m)) :: F) := by
  refine Ctr.body Try.func17 rfl rfl ?_
  refine TR.seq ?_
  refine TR.region ?_
  refine RL.assign rfl rfl rfl ?_
  refine RL.nil ?_
  refine NX.seq ?_
  refine TR.seq ?_
  refine TR.region ?_
  refine RL.assign rfl rfl rfl ?_
  refine RL.weak (fun w hw => OwnSl.nil_new 3 1 hw) ?_
  refine RL.nil ?_
  refine NX.seq ?_
  refine TR.seq ?_
  refine TR.region ?_
  refine RL.move rfl rfl rfl ?_
  refine RL.move rfl rfl rfl ?_
  refine RL.move rfl rfl rfl ?_
  refine RL.lenSlice rfl l_tl22 rfl rfl ?_
  refine RL.move rfl rfl rfl ?_
  refine RL.min rfl rfl rfl rfl ?_
  skip
  refine RL.sliceLH (h := min xs.length m) rfl l_tl22 l_tz3 rfl (.inl ⟨rfl, rfl⟩) (.inr ⟨_, rfl, congrArg (fun z => some (I z)) (by omega)⟩) (Nat.zero_le _) (by omega) rfl ?_
  refine RL.weak (fun w hw => hw.addFact (ArrF (cutA oa 0 ca 1) (ints (xs.take (min xs.length m)))) (fun K hf => by
      have h9 := ArrAt.cut (size := 1) (cap := ca) (hf _ ha) 0 (min xs.length m) (by rw [List.length_map, Nat.mul_one]) (by omega) hca
      rw [Nat.mul_one] at h9
      show ArrAt _ _ _ _
      simpa [List.map_take] using h9)) ?_
  refine RL.ofGV rfl rfl (GV.append (j := 0) l_tl22 l_ni22 l_te3 rfl rfl rfl (src_fact (xs := ints (xs.take (min xs.length m))) (.head _) (by simp) (ints_one _)) (by omega) (by omega)) (fun y => ?_)
  refine RL.assign rfl rfl rfl ?_
  refine RL.nil ?_
  refine NX.seq ?_
  refine TR.ret ?_
  have e9 : xs.take (min xs.length m) = xs.take m := by
    rcases Nat.le_total xs.length m with h | h
    · rw [Nat.min_eq_left h, List.take_length, List.take_of_length_le h]
    · rw [Nat.min_eq_right h]
  refine NX.ret1x rfl rfl (fun w hw => ⟨⟨(y.1, y.2), ?_⟩, ?_, ?_⟩)
  · have h8 := hw.ownLen.2
    rw [List.length_take]; show min m xs.length ≤ y.2; omega
  · show Value.slice y.1 _ y.2 = Value.slice y.1 (xs.take m).length y.2; rw [List.length_take, Nat.zero_add, Nat.sub_zero, Nat.min_comm]
  · have h9 := (hw.facts (F' := F) (fun φ h => .tail _ h)).keepSl
    rw [List.nil_append, e9] at h9
    exact h9

end Go.Proofs.Ytnolpmigiboanaa
