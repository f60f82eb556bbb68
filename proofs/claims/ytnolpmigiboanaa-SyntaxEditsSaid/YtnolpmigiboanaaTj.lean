/- Walks of the functions of package syntax and of its reference model. Printed by s07.py. -/
import Derived.Test.YtnolpmigiboanaaSm4
import Derived.Test.YtnolpmigiboanaaTi
namespace Go.Proofs.Ytnolpmigiboanaa
open Go.GL Go.GL.Tree
theorem u_bs23_1_0 (x00 : Int) (x01 : Int) (x02 : List UInt8) (x03 : Option Addr) (x03n x03c : Nat) : BuildSV Try.prog 23 25 1 [(0, .agg #[.int .i64 x00, .int .i64 x01, S x02, .slice x03 x03n x03c])] [.int .i64 x00, .int .i64 x01, S x02, .slice x03 x03n x03c] := fun w => by kernel_rfl
theorem u_ni23 : noInt Try.prog 23 = true := by kernel_rfl
theorem u_ta25 : tyAgg Try.prog 25 4 = true := by kernel_rfl
theorem u_te25 : tyElem Try.prog 25 4 56 = true := by kernel_rfl
theorem u_tf25_0 : fieldOff Try.prog 25 0 0 = true := by kernel_rfl
theorem u_tf25_3 : fieldOff Try.prog 25 3 3 = true := by kernel_rfl
theorem u_tl23 : tySlice Try.prog 23 25 = true := by kernel_rfl
theorem u_ts23 : tyScalar Try.prog 23 = true := by kernel_rfl
theorem u_ts3 : tyScalar Try.prog 3 = true := by kernel_rfl
theorem u_tz25 : tySize Try.prog 25 4 = true := by kernel_rfl
structure MX where
  k : Nat
  oa : Option Addr
  oc : Nat
  cs : List Value

theorem refNumber_spec {d : Nat} : ∀ {t : Tree} {a : Option Addr} {len cap : Nat} {M : List HP} {F : List Fact} {q : Int}, Small d t → d ≤ 8 → TreeF t (nodeV t a len cap) ∈ F → Ctr Try.prog 27 [nodeV t a len cap, I q] M F {x : TX // x.t = (renum t q).1} (fun x => .tuple #[x.1.v, I (renum t q).2]) (fun _ => M) (fun x => TreeF x.1.t x.1.v :: F) := by
  induction d with
  | zero => intro t a len cap M F q hs hd ht; exact hs.elim
  | succ d refNumber_spec =>
  intro t a len cap M F q hs hd ht
  refine Ctr.body Try.func27 rfl rfl ?_
  refine TR.seq ?_
  refine TR.region ?_
  refine RL.boxA rfl rfl rfl (fun b1 => ?_)
  refine RL.allocA rfl (Try.zeroValue25) rfl (fun b2 => ?_)
  refine RL.assign rfl rfl rfl ?_
  refine RL.nil ?_
  refine NX.seq ?_
  refine TR.seq ?_
  refine TR.region ?_
  refine RL.move rfl rfl rfl ?_
  refine RL.fieldAddr rfl u_tf25_0 rfl rfl ?_
  refine RL.store1 1 rfl u_ts3 rfl rfl rfl rfl rfl ?_
  refine RL.nil ?_
  refine NX.seq ?_
  refine TR.seq ?_
  refine TR.region ?_
  refine RL.move rfl rfl rfl ?_
  refine RL.bin rfl rfl rfl BinV.addW rfl ?_
  refine RL.assign rfl rfl rfl ?_
  refine RL.nil ?_
  refine NX.seq ?_
  refine TR.seq ?_
  refine TR.region ?_
  refine RL.open1 (open_node ht) (fun hlen => ?_)
  refine RL.assign rfl rfl rfl ?_
  refine RL.nil ?_
  refine NX.seq ?_
  refine TR.seq ?_
  refine TR.seq ?_
  refine TR.region ?_
  refine RL.assign rfl rfl rfl ?_
  refine RL.nil ?_
  refine NX.seq ?_
  refine TR.block ?_
  refine TR.loopP (ι := MX) (fun x => x.k ≤ t.kids.length) (fun x => [(1, I (renumAll (t.kids.take x.k) (nx q)).2), (2, .pointer (some ⟨b1, 0, none⟩)), (4, .pointer (some ⟨b2, 0, none⟩)), (5, I 0), (6, .slice x.oa x.k x.oc), (7, I x.k)]) (fun x => OwnSl 25 4 x.oa x.k x.oc x.cs :: Box b2 25 [I 0, I 0, S [], .slice none 0 0] :: Box b1 25 [I q, I t.kind, S t.txt, .slice a len cap] :: M) (fun x => TreesF (renumAll (t.kids.take x.k) (nx q)).1 x.cs :: KidsOF a t.kids :: F) (fun x => t.kids.length - x.k) ⟨0, none, 0, []⟩ (Nat.zero_le _) ⟨rfl, rfl, rfl, rfl, rfl, rfl, trivial⟩ (fun w hw => OwnSl.nil_new 25 4 (hw.addFact (TreesF (renumAll (t.kids.take 0) (nx q)).1 []) (fun _ _ => rfl))) (fun x hx => ?_)
  refine TR.seq ?_
  refine TR.seq ?_
  refine TR.region ?_
  refine RL.move rfl rfl rfl ?_
  refine RL.fieldAddr rfl u_tf25_3 rfl rfl ?_
  refine RL.load1 2 rfl u_ts23 rfl rfl rfl rfl ?_
  refine RL.lenSlice rfl u_tl23 rfl rfl ?_
  refine RL.bin rfl rfl rfl BinV.lss rfl ?_
  refine RL.nil ?_
  refine NX.seq ?_
  refine TR.cond rfl (fun h3 => ?_) (fun h3 => ?_)
  · skip
    have hk1 : x.k < t.kids.length := by have := of_decide_eq_true h3; omega
    have hk4 := hs.2.1
    refine TR.openP (open_kid (a := a) (ks := t.kids) (.tail _ (.head _)) (List.getElem?_eq_getElem hk1)) (fun w0 hw0 => ?_)
    refine TR.skip ?_
    refine NX.seq ?_
    refine TR.seq ?_
    refine TR.block ?_
    refine TR.seq ?_
    refine TR.region ?_
    refine RL.fieldAddr rfl u_tf25_3 rfl rfl ?_
    refine RL.load1 2 rfl u_ts23 rfl rfl rfl rfl ?_
    refine RL.move rfl rfl rfl ?_
    refine RL.indexAddr rfl u_tl23 u_tz25 (congrArg (fun a => some (Value.slice a _ _)) hw0) rfl (by omega) (by omega) rfl ?_
    refine RL.loadF rfl rfl (fun w K hF => run_loadCellsAt (hF _ (.head _)) u_ta25) rfl ?_
    refine RL.move rfl rfl rfl ?_
    refine RL.call rfl rfl Try.call27 rfl (refNumber_spec (hs.kid (List.getElem_mem hk1)) (by omega) (.tail _ (.head _))) (fun z => ?_)
    refine RL.move rfl rfl rfl ?_
    refine RL.extract rfl rfl rfl rfl ?_
    refine RL.extract rfl rfl rfl rfl ?_
    refine RL.allocA rfl (Try.zeroValue25) rfl (fun b4 => ?_)
    refine RL.storeA 0 rfl rfl rfl rfl u_tz25 rfl rfl ?_
    refine RL.assign rfl rfl rfl ?_
    refine RL.nil ?_
    refine NX.seq ?_
    refine TR.seq ?_
    refine TR.region ?_
    refine RL.move rfl rfl rfl ?_
    refine RL.loadA 0 rfl rfl rfl u_ta25 rfl ?_
    refine RL.buildSlice rfl rfl (u_bs23_1_0 _ _ _ _ _ _) rfl (fun b5 => ?_)
    refine RL.ofGV rfl rfl (GV.append (j := 2) u_tl23 u_ni23 u_te25 rfl rfl rfl (src_box (i := 0) rfl rfl rfl) (by omega) (by omega)) (fun y => ?_)
    refine RL.assign rfl rfl rfl ?_
    refine RL.nil ?_
    refine NX.seq ?_
    refine TR.region ?_
    refine RL.move rfl rfl rfl ?_
    refine RL.assign rfl rfl rfl ?_
    refine RL.nil ?_
    refine NX.off ?_
    refine NX.seq ?_
    refine TR.region ?_
    refine RL.move rfl rfl rfl ?_
    refine RL.bin rfl rfl rfl (BinV.add _ rfl (by omega) (by omega)) rfl ?_
    refine RL.assign rfl rfl rfl ?_
    refine RL.nil ?_
    obtain ⟨z, hz⟩ := z
    have hz : z.t = (renum t.kids[x.k] (renumAll (t.kids.take x.k) (nx q)).2).1 := hz
    have hst := renumAll_step hk1 (nx q)
    refine NX.roundP ⟨x.k + 1, y.1, y.2, x.cs ++ z.c⟩ (show x.k + 1 ≤ t.kids.length by omega) (by show _ - (x.k + 1) < _ - x.k; omega) ⟨congrArg (fun r => some (I r)) (by show _ = (renumAll (t.kids.take (x.k + 1)) (nx q)).2; rw [hst]), rfl, rfl, rfl, rfl, rfl, trivial⟩ (fun w hw => ?_)
    have h9 := (((hw.drop 0 rfl).drop 0 rfl).trees1 (ts := (renumAll (t.kids.take x.k) (nx q)).1) (cs := x.cs) (t := z.t) (a := z.a) (len := z.len) (cap := z.cap) (.tail _ (.tail _ (.tail _ (.head _)))) (.head _)).facts (F' := TreesF ((renumAll (t.kids.take x.k) (nx q)).1 ++ [z.t]) (x.cs ++ z.c) :: KidsOF a t.kids :: F) (fun φ h => by
      rcases List.mem_cons.1 h with e | h
      · subst e; exact .head _
      · exact .tail _ (.tail _ (.tail _ (.tail _ (.tail _ h)))))
    show St w (OwnSl 25 4 y.1 (x.k + 1) y.2 (x.cs ++ z.c) :: _) (TreesF (renumAll (t.kids.take (x.k + 1)) (nx q)).1 _ :: _)
    rw [hst, ← hz]
    exact h9
  · skip
    have hk2 : x.k = t.kids.length := by have := of_decide_eq_false h3; omega
    refine TR.exit ?_
    refine NX.exitThen ?_
    refine NX.exitThen ?_
    refine NX.exitHere ?_
    refine NX.seq ?_
    refine TR.seq ?_
    refine TR.region ?_
    refine RL.move rfl rfl rfl ?_
    refine RL.fieldAddr rfl u_tf25_3 rfl rfl ?_
    refine RL.store1 2 rfl u_ts23 rfl rfl rfl rfl rfl ?_
    refine RL.nil ?_
    refine NX.seq ?_
    refine TR.seq ?_
    refine TR.region ?_
    refine RL.loadA 2 rfl rfl rfl u_ta25 rfl ?_
    refine RL.move rfl rfl rfl ?_
    refine RL.storeA 1 rfl rfl rfl rfl u_tz25 rfl rfl ?_
    refine RL.assign rfl rfl rfl ?_
    refine RL.nil ?_
    refine NX.seq ?_
    refine TR.ret ?_
    have e9 : (renumAll (t.kids.take x.k) (nx q)) = renumAll t.kids (nx q) := by rw [hk2, List.take_length]
    rw [e9]
    refine NX.retC1 (j := 1) rfl rfl rfl rfl u_ta25 (fun w hw => ?_)
    have h9 := hw.treeSl (renum t q).1 (by rw [renum_eq]; exact .head _)
    refine ⟨⟨⟨(renum t q).1, x.oa, x.k, x.oc⟩, rfl⟩, ?_, ((h9.2.drop 0 rfl).drop 0 rfl).facts (fun φ h => by
      rcases List.mem_cons.1 h with e | h
      · subst e; exact .head _
      · exact .tail _ (.tail _ (.tail _ h)))⟩
    show _ = Value.tuple #[nodeV (renum t q).1 x.oa x.k x.oc, I (renum t q).2]
    rw [renum_eq]; rfl

end Go.Proofs.Ytnolpmigiboanaa
