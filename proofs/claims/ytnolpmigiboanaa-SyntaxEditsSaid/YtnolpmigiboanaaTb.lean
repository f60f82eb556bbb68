/- Walks of the functions of package syntax and of its reference model. Printed by s07.py. -/
import Derived.Test.YtnolpmigiboanaaSm2
import Derived.Test.YtnolpmigiboanaaTa
namespace Go.Proofs.Ytnolpmigiboanaa
open Go.GL Go.GL.Tree
theorem k_bs22_1_0 (x0 : Int) : BuildSV Try.prog 22 3 1 [(0, .int .i64 x0)] [.int .i64 x0] := fun w => by kernel_rfl
theorem k_bs23_1_0 (x00 : Int) (x01 : Int) (x02 : List UInt8) (x03 : Option Addr) (x03n x03c : Nat) : BuildSV Try.prog 23 25 1 [(0, .agg #[.int .i64 x00, .int .i64 x01, S x02, .slice x03 x03n x03c])] [.int .i64 x00, .int .i64 x01, S x02, .slice x03 x03n x03c] := fun w => by kernel_rfl
theorem k_ni22 : noInt Try.prog 22 = true := by kernel_rfl
theorem k_ni23 : noInt Try.prog 23 = true := by kernel_rfl
theorem k_ta25 : tyAgg Try.prog 25 4 = true := by kernel_rfl
theorem k_te25 : tyElem Try.prog 25 4 56 = true := by kernel_rfl
theorem k_te3 : tyElem Try.prog 3 1 8 = true := by kernel_rfl
theorem k_tf25_0 : fieldOff Try.prog 25 0 0 = true := by kernel_rfl
theorem k_tf25_1 : fieldOff Try.prog 25 1 1 = true := by kernel_rfl
theorem k_tf25_2 : fieldOff Try.prog 25 2 2 = true := by kernel_rfl
theorem k_tf25_3 : fieldOff Try.prog 25 3 3 = true := by kernel_rfl
theorem k_tl22 : tySlice Try.prog 22 3 = true := by kernel_rfl
theorem k_tl23 : tySlice Try.prog 23 25 = true := by kernel_rfl
theorem k_ts23 : tyScalar Try.prog 23 = true := by kernel_rfl
theorem k_ts3 : tyScalar Try.prog 3 = true := by kernel_rfl
theorem k_ts9 : tyScalar Try.prog 9 = true := by kernel_rfl
theorem k_tz25 : tySize Try.prog 25 4 = true := by kernel_rfl
theorem refEqual_spec {d : Nat} : ∀ {t u : Tree} {a a' : Option Addr} {len cap len' cap' : Nat} {M : List HP} {F : List Fact}, Small d t → d ≤ 8 → TreeF t (nodeV t a len cap) ∈ F → TreeF u (nodeV u a' len' cap') ∈ F → Ctr Try.prog 29 [nodeV t a len cap, nodeV u a' len' cap'] M F Unit (fun _ => .bool (eqv t u)) (fun _ => M) (fun _ => F) := by
  induction d with
  | zero => intro t u a a' len cap len' cap' M F hs hd ht hu; exact hs.elim
  | succ d refEqual_spec =>
  intro t u a a' len cap len' cap' M F hs hd ht hu
  refine Ctr.body Try.func29 rfl rfl ?_
  refine TR.seq ?_
  refine TR.region ?_
  refine RL.boxA rfl rfl rfl (fun b1 => ?_)
  refine RL.boxA rfl rfl rfl (fun b2 => ?_)
  refine RL.assign rfl rfl rfl ?_
  refine RL.nil ?_
  refine NX.seq ?_
  refine TR.seq ?_
  refine TR.seq ?_
  refine TR.region ?_
  refine RL.fieldAddr rfl k_tf25_1 rfl rfl ?_
  refine RL.load1 1 rfl k_ts3 rfl rfl rfl rfl ?_
  refine RL.fieldAddr rfl k_tf25_1 rfl rfl ?_
  refine RL.load1 0 rfl k_ts3 rfl rfl rfl rfl ?_
  refine RL.bin rfl rfl rfl BinV.neq rfl ?_
  refine RL.move rfl rfl rfl ?_
  refine RL.part (fun h3 => ?_) (fun h3 => ?_)
  · skip
    have he : eqv t u = false := by have := of_decide_eq_true h3; rw [eqv_eq, decide_eq_false this]; rfl
    refine RL.skip rfl rfl rfl ?_
    refine RL.skip rfl rfl rfl ?_
    refine RL.skip rfl rfl rfl ?_
    refine RL.skip rfl rfl rfl ?_
    refine RL.skip rfl rfl rfl ?_
    refine RL.pickT rfl rfl rfl rfl ?_
    refine RL.move rfl rfl rfl ?_
    refine RL.skip rfl rfl rfl ?_
    refine RL.skip rfl rfl rfl ?_
    refine RL.skip rfl rfl rfl ?_
    refine RL.skip rfl rfl rfl ?_
    refine RL.skip rfl rfl rfl ?_
    refine RL.skip rfl rfl rfl ?_
    refine RL.skip rfl rfl rfl ?_
    refine RL.pickT rfl rfl rfl rfl ?_
    refine RL.nil ?_
    refine NX.seq ?_
    refine TR.condT rfl ?_
    refine TR.seq ?_
    refine TR.region ?_
    refine RL.assign rfl rfl rfl ?_
    refine RL.nil ?_
    refine NX.seq ?_
    refine TR.ret ?_
    refine NX.retThen ?_
    refine NX.ret1 () rfl rfl (by rw [he]) (fun w hw => hw.tail.tail)
  · skip
    have hkd : t.kind = u.kind := by have := of_decide_eq_false h3; simpa using this
    refine RL.fieldAddr rfl k_tf25_2 rfl rfl ?_
    refine RL.load1 1 rfl k_ts9 rfl rfl rfl rfl ?_
    refine RL.fieldAddr rfl k_tf25_2 rfl rfl ?_
    refine RL.load1 0 rfl k_ts9 rfl rfl rfl rfl ?_
    refine RL.bin rfl rfl rfl BinV.neqS rfl ?_
    refine RL.pickF rfl rfl rfl rfl ?_
    refine RL.move rfl rfl rfl ?_
    refine RL.part (fun h4 => ?_) (fun h4 => ?_)
    · skip
      have he : eqv t u = false := by have := of_decide_eq_true h4; rw [eqv_eq, decide_eq_false this]; simp
      refine RL.skip rfl rfl rfl ?_
      refine RL.skip rfl rfl rfl ?_
      refine RL.skip rfl rfl rfl ?_
      refine RL.skip rfl rfl rfl ?_
      refine RL.skip rfl rfl rfl ?_
      refine RL.skip rfl rfl rfl ?_
      refine RL.skip rfl rfl rfl ?_
      refine RL.pickT rfl rfl rfl rfl ?_
      refine RL.nil ?_
      refine NX.seq ?_
      refine TR.condT rfl ?_
      refine TR.seq ?_
      refine TR.region ?_
      refine RL.assign rfl rfl rfl ?_
      refine RL.nil ?_
      refine NX.seq ?_
      refine TR.ret ?_
      refine NX.retThen ?_
      refine NX.ret1 () rfl rfl (by rw [he]) (fun w hw => hw.tail.tail)
    · skip
      have htx : t.txt = u.txt := by have := of_decide_eq_false h4; simpa using this
      refine RL.open1 (open_node ht) (fun hlt => ?_)
      refine RL.open1 (open_node (.tail _ hu)) (fun hlu => ?_)
      refine RL.fieldAddr rfl k_tf25_3 rfl rfl ?_
      refine RL.load1 1 rfl k_ts23 rfl rfl rfl rfl ?_
      refine RL.lenSlice rfl k_tl23 rfl rfl ?_
      refine RL.fieldAddr rfl k_tf25_3 rfl rfl ?_
      refine RL.load1 0 rfl k_ts23 rfl rfl rfl rfl ?_
      refine RL.lenSlice rfl k_tl23 rfl rfl ?_
      refine RL.bin rfl rfl rfl BinV.neq rfl ?_
      refine RL.pickF rfl rfl rfl rfl ?_
      refine RL.nil ?_
      refine NX.seq ?_
      refine TR.cond rfl (fun h5 => ?_) (fun h5 => ?_)
      · skip
        have he : eqv t u = false := by have := of_decide_eq_true h5; rw [eqv_eq, eqvAll_len (by omega)]; simp
        refine TR.seq ?_
        refine TR.region ?_
        refine RL.assign rfl rfl rfl ?_
        refine RL.nil ?_
        refine NX.seq ?_
        refine TR.ret ?_
        refine NX.retThen ?_
        refine NX.ret1 () rfl rfl (by rw [he]) (fun w hw => hw.tail.tail.facts (fun φ h => .tail _ (.tail _ (h))))
      · skip
        have hll : t.kids.length = u.kids.length := by have := of_decide_eq_false h5; omega
        have hev : eqv t u = eqvAll t.kids u.kids := by rw [eqv_eq, decide_eq_true hkd, decide_eq_true htx]; rfl
        refine TR.skip ?_
        refine NX.seq ?_
        refine TR.seq ?_
        refine TR.seq ?_
        refine TR.region ?_
        refine RL.assign rfl rfl rfl ?_
        refine RL.nil ?_
        refine NX.seq ?_
        refine TR.block ?_
        refine TR.loopP (ι := Nat) (fun k => k ≤ t.kids.length ∧ eqvAll (t.kids.drop k) (u.kids.drop k) = eqv t u) (fun k => [(2, .pointer (some ⟨b1, 0, none⟩)), (3, .pointer (some ⟨b2, 0, none⟩)), (4, .bool false), (5, I k)]) (fun _ => Box b2 25 (nodeC u a' len' cap') :: Box b1 25 (nodeC t a len cap) :: M) (fun _ => KidsOF a' u.kids :: KidsOF a t.kids :: F) (fun k => t.kids.length - k) 0 ⟨Nat.zero_le _, hev.symm⟩ ⟨rfl, rfl, rfl, rfl, trivial⟩ (fun w hw => hw) (fun k hk => ?_)
        refine TR.seq ?_
        refine TR.seq ?_
        refine TR.region ?_
        refine RL.move rfl rfl rfl ?_
        refine RL.fieldAddr rfl k_tf25_3 rfl rfl ?_
        refine RL.load1 1 rfl k_ts23 rfl rfl rfl rfl ?_
        refine RL.lenSlice rfl k_tl23 rfl rfl ?_
        refine RL.bin rfl rfl rfl BinV.lss rfl ?_
        refine RL.nil ?_
        refine NX.seq ?_
        refine TR.cond rfl (fun h6 => ?_) (fun h6 => ?_)
        · skip
          have hk1 : k < t.kids.length := by have := of_decide_eq_true h6; omega
          have hk2 : k < u.kids.length := by omega
          refine TR.openP (open_kid (a := a) (ks := t.kids) (.tail _ (.head _)) (List.getElem?_eq_getElem hk1)) (fun x hx => ?_)
          refine TR.openP (open_kid (a := a') (ks := u.kids) (.tail _ (.tail _ (.head _))) (List.getElem?_eq_getElem hk2)) (fun y hy => ?_)
          refine TR.skip ?_
          refine NX.seq ?_
          refine TR.seq ?_
          refine TR.block ?_
          refine TR.seq ?_
          refine TR.sub (E' := [(2, _), (3, _), (4, _), (5, _), (27, _), (28, _), (29, _), (30, _), (31, _)]) ⟨rfl, rfl, rfl, rfl, rfl, rfl, rfl, rfl, rfl, trivial⟩ ?_
          refine TR.draw mixed ?_
          apply AR.more [(0, _), (1, _), (2, _), (3, _), (4, _), (5, _), (6, _), (7, _), (8, _), (9, _)]
          refine AR.eff [0, 1, 2, 3, 4, 5, 6, 7, 8, 9] 10 [0, 1, 2, 3, 4, 5, 6, 7, 8, 9, 10, 11] ⟨QOne.yes rfl rfl rfl (PV.fieldAddr k_tf25_3 rfl), QOne.yes rfl rfl rfl (PV.load1 1 k_ts23 rfl rfl rfl), QOne.yes rfl rfl rfl (PV.move rfl), QOne.yes rfl rfl rfl (PV.indexAddr k_tl23 k_tz25 (congrArg (fun a => some (Value.slice a _ _)) hx) rfl (by omega) (by omega)), QOne.yes rfl rfl rfl (PV.loadF rfl (fun w K hF => run_loadCellsAt (hF _ (.tail _ (.tail _ (.head _)))) k_ta25)), QOne.yes rfl rfl rfl (PV.fieldAddr k_tf25_3 rfl), QOne.yes rfl rfl rfl (PV.load1 0 k_ts23 rfl rfl rfl), QOne.yes rfl rfl rfl (PV.move rfl), QOne.yes rfl rfl rfl (PV.indexAddr k_tl23 k_tz25 (congrArg (fun a => some (Value.slice a _ _)) hy) rfl (by omega) (by omega)), QOne.yes rfl rfl rfl (PV.loadF rfl (fun w K hF => run_loadCellsAt (hF _ (.head _)) k_ta25)), trivial⟩ rfl rfl rfl rfl rfl rfl rfl (EV.call rfl Try.call29 (refEqual_spec (hs.kid (List.getElem_mem hk1)) (by omega) (.tail _ (.tail _ (.tail _ (.head _)))) (.tail _ (.head _)))) (fun _ => ?_)
          refine AR.done [4, 9, 8, 3, 1, 2, 6, 7, 5, 0] rfl ?_
          apply AR.more [(11, _)]
          refine AR.last [11] [0, 1, 2, 3, 4, 5, 6, 7, 8, 9, 10, 11] ⟨QOne.yes rfl rfl rfl (PV.not rfl), trivial⟩ rfl rfl rfl ?_
          refine NX.sub (E' := [(2, _), (3, _), (4, _), (5, _), (27, _), (28, _), (29, _), (30, _), (31, _), (34, _), (35, _), (36, _), (37, _), (38, _), (39, _), (40, _), (41, _), (42, _), (43, _), (44, _), (45, _)]) ⟨rfl, rfl, rfl, rfl, rfl, rfl, rfl, rfl, rfl, rfl, rfl, rfl, rfl, rfl, rfl, rfl, rfl, rfl, rfl, rfl, rfl, trivial⟩ ?_
          refine NX.seq ?_
          refine TR.cond rfl (fun h7 => ?_) (fun h7 => ?_)
          · skip
            have hne : eqv t.kids[k] u.kids[k] = false := by simpa using h7
            refine TR.seq ?_
            refine TR.region ?_
            refine RL.assign rfl rfl rfl ?_
            refine RL.nil ?_
            refine NX.seq ?_
            refine TR.ret ?_
            refine NX.retBlock ?_
            refine NX.retThen ?_
            refine NX.retThen ?_
            refine NX.retBlock ?_
            refine NX.retThen ?_
            have h9 := hk.2
            rw [eqvAll_drop hk1 hk2, hne, Bool.false_and] at h9
            refine NX.ret1 () rfl rfl (by rw [← h9]) (fun w hw => hw.tail.tail.facts (fun φ h => .tail _ (.tail _ (.tail _ (.tail _ (.tail _ (.tail _ (h))))))))
          · skip
            have hne : eqv t.kids[k] u.kids[k] = true := by simpa using h7
            refine TR.skip ?_
            refine NX.off ?_
            refine NX.seq ?_
            refine TR.region ?_
            refine RL.move rfl rfl rfl ?_
            refine RL.bin rfl rfl rfl (BinV.add _ rfl (by omega) (by omega)) rfl ?_
            refine RL.assign rfl rfl rfl ?_
            refine RL.nil ?_
            refine NX.roundP (k + 1) ⟨by omega, ?_⟩ (by omega) ⟨rfl, rfl, rfl, rfl, trivial⟩ (fun w hw => hw.facts (F' := KidsOF a' u.kids :: KidsOF a t.kids :: F) (fun φ h => .tail _ (.tail _ (.tail _ (.tail _ (h))))))
            have h9 := hk.2
            rw [eqvAll_drop hk1 hk2, hne, Bool.true_and] at h9
            exact h9
        · skip
          have hk3 : t.kids.length ≤ k := by have := of_decide_eq_false h6; omega
          refine TR.exit ?_
          refine NX.exitThen ?_
          refine NX.exitThen ?_
          refine NX.exitHere ?_
          refine NX.seq ?_
          refine TR.seq ?_
          refine TR.region ?_
          refine RL.assign rfl rfl rfl ?_
          refine RL.nil ?_
          refine NX.seq ?_
          refine TR.ret ?_
          have h9 := hk.2
          rw [eqvAll_end hk3 (by omega)] at h9
          refine NX.ret1 () rfl rfl (by rw [← h9]) (fun w hw => hw.tail.tail.facts (fun φ h => .tail _ (.tail _ (h))))

structure NX1 where
  k : Nat
  oa : Option Addr
  oc : Nat
  cs : List Value

theorem nodes_spec {d : Nat} : ∀ {t : Tree} {a : Option Addr} {len cap : Nat} {M : List HP} {F : List Fact}, Small d t → d ≤ 8 → TreeF t (nodeV t a len cap) ∈ F → Ctr Try.prog 48 [nodeV t a len cap] M F {z : RowX // z.cs.length = t.pre.length * 4 ∧ z.cs.all Value.oneCell' = true} (fun z => .slice z.1.oa t.pre.length z.1.oc) (fun _ => M) (fun z => ArrF z.1.oa z.1.cs :: TreesF t.pre z.1.cs :: F) := by
  induction d with
  | zero => intro t a len cap M F hs hd ht; exact hs.elim
  | succ d nodes_spec =>
  intro t a len cap M F hs hd ht
  refine Ctr.body Try.func48 rfl rfl ?_
  refine TR.seq ?_
  refine TR.region ?_
  refine RL.boxA rfl rfl rfl (fun b1 => ?_)
  refine RL.assign rfl rfl rfl ?_
  refine RL.nil ?_
  refine NX.seq ?_
  refine TR.seq ?_
  refine TR.region ?_
  refine RL.loadA 0 rfl rfl rfl k_ta25 rfl ?_
  refine RL.buildSlice rfl rfl (k_bs23_1_0 _ _ _ _ _ _) rfl (fun b2 => ?_)
  refine RL.weak (fun w hw => (St.boxSl (n := 1) (size := 4) rfl (by decide) hw).addFact (TreesF [t] (nodeC t a len cap)) (fun K hf => TreesAt.one (hf _ ht))) ?_
  refine RL.assign rfl rfl rfl ?_
  refine RL.nil ?_
  refine NX.seq ?_
  refine TR.seq ?_
  refine TR.seq ?_
  refine TR.region ?_
  refine RL.open1 (open_node (.tail _ ht)) (fun hlen => ?_)
  refine RL.assign rfl rfl rfl ?_
  refine RL.nil ?_
  refine NX.seq ?_
  refine TR.block ?_
  refine TR.loopP (ι := NX1) (fun x => x.k ≤ t.kids.length) (fun x => [(1, .pointer (some ⟨b1, 0, none⟩)), (2, .slice none 0 0), (3, .slice x.oa (1 + (preAll (t.kids.take x.k)).length) x.oc), (4, I x.k)]) (fun x => OwnSl 25 4 x.oa (1 + (preAll (t.kids.take x.k)).length) x.oc x.cs :: Box b1 25 (nodeC t a len cap) :: M) (fun x => TreesF ([t] ++ preAll (t.kids.take x.k)) x.cs :: KidsOF a t.kids :: F) (fun x => t.kids.length - x.k) ⟨0, some ⟨b2, 0, none⟩, 1, nodeC t a len cap⟩ (Nat.zero_le _) ⟨rfl, rfl, rfl, rfl, trivial⟩ (fun w hw => hw.facts (fun φ h => by
        rcases List.mem_cons.1 h with e | h
        · subst e; exact .tail _ (.head _)
        · rcases List.mem_cons.1 h with e | h
          · subst e; exact .head _
          · exact .tail _ (.tail _ h))) (fun x hx => ?_)
  refine TR.seq ?_
  refine TR.seq ?_
  refine TR.region ?_
  refine RL.move rfl rfl rfl ?_
  refine RL.fieldAddr rfl k_tf25_3 rfl rfl ?_
  refine RL.load1 1 rfl k_ts23 rfl rfl rfl rfl ?_
  refine RL.lenSlice rfl k_tl23 rfl rfl ?_
  refine RL.bin rfl rfl rfl BinV.lss rfl ?_
  refine RL.nil ?_
  refine NX.seq ?_
  refine TR.cond rfl (fun h3 => ?_) (fun h3 => ?_)
  · skip
    have hk1 : x.k < t.kids.length := by have := of_decide_eq_true h3; omega
    have hb1 := preAll_take_le t.kids (x.k + 1)
    rw [preAll_step hk1, List.length_append] at hb1
    have hb2 := hs.count6 hd
    rw [pre_eq, List.length_cons] at hb2
    refine TR.openP (open_kid (a := a) (ks := t.kids) (.tail _ (.head _)) (List.getElem?_eq_getElem hk1)) (fun w0 hw0 => ?_)
    refine TR.skip ?_
    refine NX.seq ?_
    refine TR.seq ?_
    refine TR.block ?_
    refine TR.region ?_
    refine RL.move rfl rfl rfl ?_
    refine RL.fieldAddr rfl k_tf25_3 rfl rfl ?_
    refine RL.load1 1 rfl k_ts23 rfl rfl rfl rfl ?_
    refine RL.move rfl rfl rfl ?_
    refine RL.indexAddr rfl k_tl23 k_tz25 (congrArg (fun a => some (Value.slice a _ _)) hw0) rfl (by omega) (by omega) rfl ?_
    refine RL.loadF rfl rfl (fun w K hF => run_loadCellsAt (hF _ (.head _)) k_ta25) rfl ?_
    refine RL.call rfl rfl Try.call48 rfl (nodes_spec (hs.kid (List.getElem_mem hk1)) (by omega) (.tail _ (.head _))) (fun z => ?_)
    refine RL.ofGV rfl rfl (GV.append (j := 0) k_tl23 k_ni23 k_te25 rfl rfl rfl (src_fact (.head _) z.2.1 z.2.2) (by omega) (by omega)) (fun y => ?_)
    refine RL.assign rfl rfl rfl ?_
    refine RL.nil ?_
    refine NX.off ?_
    refine NX.seq ?_
    refine TR.region ?_
    refine RL.move rfl rfl rfl ?_
    refine RL.bin rfl rfl rfl (BinV.add _ rfl (by omega) (by omega)) rfl ?_
    refine RL.assign rfl rfl rfl ?_
    refine RL.nil ?_
    refine NX.roundP ⟨x.k + 1, y.1, y.2, x.cs ++ z.1.cs⟩ (show x.k + 1 ≤ t.kids.length by omega) (by show _ - (x.k + 1) < _ - x.k; omega) ⟨rfl, rfl, congrArg (fun n => some (Value.slice _ n _)) ?_, rfl, trivial⟩ (fun w hw => ?_)
    · show _ = 1 + (preAll (t.kids.take (x.k + 1))).length; rw [preAll_step hk1, List.length_append, Nat.add_assoc]
    · have h9 := (hw.trees2 (ts := [t] ++ preAll (t.kids.take x.k)) (us := t.kids[x.k].pre) (cs := x.cs) (ds := z.1.cs) (.tail _ (.tail _ (.tail _ (.tail _ (.head _))))) (.tail _ (.head _))).facts (F' := TreesF (([t] ++ preAll (t.kids.take x.k)) ++ t.kids[x.k].pre) (x.cs ++ z.1.cs) :: KidsOF a t.kids :: F) (fun φ h => by
        rcases List.mem_cons.1 h with e | h
        · subst e; exact .head _
        · exact .tail _ (.tail _ (.tail _ (.tail _ (.tail _ (.tail _ h))))))
      show St w (OwnSl 25 4 y.1 (1 + (preAll (t.kids.take (x.k + 1))).length) y.2 (x.cs ++ z.1.cs) :: _) (TreesF ([t] ++ preAll (t.kids.take (x.k + 1))) _ :: _)
      rw [preAll_step hk1, List.length_append, ← Nat.add_assoc, ← List.append_assoc]
      exact h9
  · skip
    have hk2 : x.k = t.kids.length := by have := of_decide_eq_false h3; omega
    refine TR.exit ?_
    refine NX.exitThen ?_
    refine NX.exitThen ?_
    refine NX.exitHere ?_
    refine NX.seq ?_
    refine TR.seq ?_
    refine TR.region ?_
    refine RL.move rfl rfl rfl ?_
    refine RL.assign rfl rfl rfl ?_
    refine RL.nil ?_
    refine NX.seq ?_
    refine TR.ret ?_
    refine NX.ret1x rfl rfl (fun w hw => ?_)
    have e9 : [t] ++ preAll (t.kids.take x.k) = t.pre := by rw [hk2, List.take_length, pre_eq]; rfl
    have e8 : 1 + (preAll (t.kids.take x.k)).length = t.pre.length := by rw [← e9, List.length_append]; rfl
    rw [e9, e8] at hw
    refine ⟨⟨⟨x.oa, x.oc, x.cs⟩, trees_len hw (.head _), src_trees hw (.head _)⟩, by rw [e8], ?_⟩
    exact (hw.keepSl.tail).facts (fun φ h => by
      rcases List.mem_cons.1 h with e | h
      · subst e; exact .head _
      · rcases List.mem_cons.1 h with e | h
        · subst e; exact .tail _ (.head _)
        · exact .tail _ (.tail _ (.tail _ h)))

theorem refIDs_spec {t : Tree} {a : Option Addr} {len cap : Nat} {M : List HP} {F : List Fact} {d : Nat} (hs : Small d t) (hd : d ≤ 8) (ht : TreeF t (nodeV t a len cap) ∈ F) : Ctr Try.prog 34 [nodeV t a len cap] M F (Option Addr × Nat) (fun z => .slice z.1 t.ids.length z.2) (fun _ => M) (fun z => ArrF z.1 (ints t.ids) :: F) := by
  refine Ctr.body Try.func34 rfl rfl ?_
  refine TR.seq ?_
  refine TR.region ?_
  refine RL.boxA rfl rfl rfl (fun b1 => ?_)
  refine RL.assign rfl rfl rfl ?_
  refine RL.nil ?_
  refine NX.seq ?_
  refine TR.seq ?_
  refine TR.region ?_
  refine RL.loadA 0 rfl rfl rfl k_ta25 rfl ?_
  refine RL.call rfl rfl Try.call48 rfl (nodes_spec hs hd ht) (fun z => ?_)
  refine RL.assign rfl rfl rfl ?_
  refine RL.nil ?_
  refine NX.seq ?_
  refine TR.seq ?_
  refine TR.region ?_
  refine RL.assign rfl rfl rfl ?_
  refine RL.nil ?_
  refine NX.seq ?_
  refine TR.seq ?_
  refine TR.seq ?_
  refine TR.region ?_
  refine RL.assign rfl rfl rfl ?_
  refine RL.nil ?_
  refine NX.seq ?_
  refine TR.block ?_
  refine TR.loopP (ι := LvX) (fun x => x.k ≤ t.pre.length) (fun x => [(1, .pointer (some ⟨b1, 0, none⟩)), (2, .slice none 0 0), (3, .slice z.1.oa t.pre.length z.1.oc), (4, .slice x.oa x.k x.cap), (5, I x.k)]) (fun x => OwnSl 3 1 x.oa x.k x.cap (ints (t.ids.take x.k)) :: Box b1 25 (nodeC t a len cap) :: M) (fun x => ArrF z.1.oa z.1.cs :: TreesF t.pre z.1.cs :: F) (fun x => t.pre.length - x.k) ⟨0, none, 0⟩ (Nat.zero_le _) ⟨rfl, rfl, rfl, rfl, rfl, trivial⟩ (fun w hw => OwnSl.nil_new 3 1 hw) (fun x hx => ?_)
  refine TR.seq ?_
  refine TR.seq ?_
  refine TR.region ?_
  refine RL.move rfl rfl rfl ?_
  refine RL.move rfl rfl rfl ?_
  refine RL.lenSlice rfl k_tl23 rfl rfl ?_
  refine RL.bin rfl rfl rfl BinV.lss rfl ?_
  refine RL.nil ?_
  refine NX.seq ?_
  refine TR.cond rfl (fun h2 => ?_) (fun h2 => ?_)
  · skip
    have hk1 : x.k < t.pre.length := by have := of_decide_eq_true h2; omega
    have hb2 := hs.count6 hd
    have hcl := z.2.1
    refine TR.openP (open_arr (.head _) (fun e => by rw [e] at hcl; simp at hcl; omega)) (fun x0 hx0 => ?_)
    refine TR.skip ?_
    refine NX.seq ?_
    refine TR.seq ?_
    refine TR.block ?_
    refine TR.region ?_
    refine RL.move rfl rfl rfl ?_
    refine RL.move rfl rfl rfl ?_
    refine RL.move rfl rfl rfl ?_
    refine RL.indexAddr rfl k_tl23 k_tz25 (congrArg (fun a => some (Value.slice a _ _)) hx0) rfl (by omega) (by omega) rfl ?_
    refine RL.fieldAddr rfl k_tf25_0 rfl rfl ?_
    refine RL.loadF rfl rfl (fun w K hF => run_loadCell1 (j := (x.k : Int).toNat * 4 + 0) (hF _ (.head _)) k_ts3 (TreesAt.at hk1 (hF _ (.tail _ (.tail _ (.head _)))))) rfl ?_
    refine RL.buildSlice rfl rfl (k_bs22_1_0 _) rfl (fun b3 => ?_)
    refine RL.ofGV rfl rfl (GV.append (j := 1) k_tl22 k_ni22 k_te3 rfl rfl rfl (src_box (i := 0) rfl rfl rfl) (by omega) (by omega)) (fun y => ?_)
    refine RL.assign rfl rfl rfl ?_
    refine RL.nil ?_
    refine NX.off ?_
    refine NX.seq ?_
    refine TR.region ?_
    refine RL.move rfl rfl rfl ?_
    refine RL.bin rfl rfl rfl (BinV.add _ rfl (by omega) (by omega)) rfl ?_
    refine RL.assign rfl rfl rfl ?_
    refine RL.nil ?_
    refine NX.roundP ⟨x.k + 1, y.1, y.2⟩ (show x.k + 1 ≤ t.pre.length by omega) (by show _ - (x.k + 1) < _ - x.k; omega) ⟨rfl, rfl, rfl, rfl, rfl, trivial⟩ (fun w hw => ?_)
    have h9 := (hw.drop 0 rfl).facts (F' := ArrF z.1.oa z.1.cs :: TreesF t.pre z.1.cs :: F) (fun φ h => .tail _ h)
    have e9 : ints (t.ids.take (x.k + 1)) = ints (t.ids.take x.k) ++ [I t.pre[x.k].id] := by
      rw [List.take_succ_eq_append_getElem (by simpa [Tree.ids] using hk1)]; simp [Tree.ids]
    show St w (OwnSl 3 1 y.1 (x.k + 1) y.2 (ints (t.ids.take (x.k + 1))) :: _) _
    rw [e9]
    exact h9
  · skip
    have hk2 : x.k = t.pre.length := by have := of_decide_eq_false h2; omega
    refine TR.exit ?_
    refine NX.exitThen ?_
    refine NX.exitThen ?_
    refine NX.exitHere ?_
    refine NX.seq ?_
    refine TR.seq ?_
    refine TR.region ?_
    refine RL.move rfl rfl rfl ?_
    refine RL.assign rfl rfl rfl ?_
    refine RL.nil ?_
    refine NX.seq ?_
    refine TR.ret ?_
    have e9 : t.ids.length = t.pre.length := by simp [Tree.ids]
    refine NX.ret1x rfl rfl (fun w hw => ⟨(x.oa, x.cap), by rw [hk2, e9], ?_⟩)
    have h10 := (hw.keepSl.tail).facts (F' := ArrF x.oa (ints (t.ids.take x.k)) :: F) (fun φ h => by
      rcases List.mem_cons.1 h with e | h
      · subst e; exact .head _
      · exact .tail _ (.tail _ (.tail _ h)))
    rw [hk2.trans e9.symm, List.take_length] at h10
    exact h10

end Go.Proofs.Ytnolpmigiboanaa
