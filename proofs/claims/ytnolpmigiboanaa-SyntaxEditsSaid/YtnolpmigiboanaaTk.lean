/- Walks of the functions of package syntax and of its reference model. Printed by s07.py. -/
import Derived.Test.YtnolpmigiboanaaSm4
import Derived.Test.YtnolpmigiboanaaTj
namespace Go.Proofs.Ytnolpmigiboanaa
open Go.GL Go.GL.Tree
theorem v_bv25_  : BuildV Try.prog 25 [] (.agg #[.int .i64 0, .int .i64 0, S [], .slice none 0 0]) := fun w => by kernel_rfl
theorem v_ni23 : noInt Try.prog 23 = true := by kernel_rfl
theorem v_ta25 : tyAgg Try.prog 25 4 = true := by kernel_rfl
theorem v_te25 : tyElem Try.prog 25 4 56 = true := by kernel_rfl
theorem v_tf25_3 : fieldOff Try.prog 25 3 3 = true := by kernel_rfl
theorem v_tl22 : tySlice Try.prog 22 3 = true := by kernel_rfl
theorem v_tl23 : tySlice Try.prog 23 25 = true := by kernel_rfl
theorem v_ts23 : tyScalar Try.prog 23 = true := by kernel_rfl
theorem v_ts3 : tyScalar Try.prog 3 = true := by kernel_rfl
theorem v_tz25 : tySize Try.prog 25 4 = true := by kernel_rfl
theorem v_tz3 : tySize Try.prog 3 1 = true := by kernel_rfl
theorem refReplace_spec {d : Nat} : ∀ {t u : Tree} {a a' oa : Option Addr} {len cap len' cap' ca : Nat} {ps : List Int} {M : List HP} {F : List Fact}, Small d t → d ≤ 8 → TreeF t (nodeV t a len cap) ∈ F → TreeF u (nodeV u a' len' cap') ∈ F → ArrF oa (ints ps) ∈ F → ps.length ≤ ca → ps.length ≤ 4611686018427387904 → Ctr Try.prog 25 [nodeV t a len cap, .slice oa ps.length ca, nodeV u a' len' cap'] M F {x : TX // x.t = (replR t ps u).1} (fun x => .tuple #[x.1.v, .bool (replR t ps u).2]) (fun _ => M) (fun x => TreeF x.1.t x.1.v :: F) := by
  induction d with
  | zero => intro t u a a' oa len cap len' cap' ca ps M F hs hd ht hu ha hpc hps; exact hs.elim
  | succ d refReplace_spec =>
  intro t u a a' oa len cap len' cap' ca ps M F hs hd ht hu ha hpc hps
  refine Ctr.body Try.func25 rfl rfl ?_
  refine TR.seq ?_
  refine TR.region ?_
  refine RL.boxA rfl rfl rfl (fun b1 => ?_)
  refine RL.boxA rfl rfl rfl (fun b2 => ?_)
  refine RL.allocA rfl (Try.zeroValue25) rfl (fun b3 => ?_)
  refine RL.assign rfl rfl rfl ?_
  refine RL.nil ?_
  refine NX.seq ?_
  refine TR.seq ?_
  refine TR.seq ?_
  refine TR.region ?_
  refine RL.move rfl rfl rfl ?_
  refine RL.lenSlice rfl v_tl22 rfl rfl ?_
  refine RL.bin rfl rfl rfl BinV.eql rfl ?_
  refine RL.nil ?_
  refine NX.seq ?_
  refine TR.cond rfl (fun h4 => ?_) (fun h4 => ?_)
  · skip
    obtain rfl : ps = [] := List.eq_nil_of_length_eq_zero (by have := of_decide_eq_true h4; omega)
    refine TR.seq ?_
    refine TR.region ?_
    refine RL.loadA 1 rfl rfl rfl v_ta25 rfl ?_
    refine RL.storeA 0 rfl rfl rfl rfl v_tz25 rfl rfl ?_
    refine RL.assign rfl rfl rfl ?_
    refine RL.nil ?_
    refine NX.seq ?_
    refine TR.ret ?_
    refine NX.retThen ?_
    refine NX.retC1 (j := 0) rfl rfl rfl rfl v_ta25 (fun w hw => ⟨⟨⟨u, a', len', cap'⟩, rfl⟩, rfl, (((hw.drop 0 rfl).drop 0 rfl).drop 0 rfl).addFact _ (fun K hf => hf _ hu)⟩)
  · skip
    obtain ⟨i0, is, hpe⟩ : ∃ i is, ps = i :: is := by
      cases ps with
      | nil => exact absurd rfl (of_decide_eq_false h4)
      | cons i is => exact ⟨i, is, rfl⟩
    subst hpe
    have hpl : (i0 :: is).length = is.length + 1 := rfl
    refine TR.openP (ι := List Value) (p := fun cs => (len = t.kids.length ∧ len ≤ cap ∧ cap ≤ 9223372036854775807) ∧ cs.length = t.kids.length * 4 ∧ cs.all Value.oneCell' = true) (fun w hw => by
      obtain ⟨cs, h1, h2⟩ := open_cells ht w hw
      exact ⟨cs, ⟨h1, trees_len h2 (.tail _ (.head _)), src_trees h2 (.tail _ (.head _))⟩, h2⟩) (fun cs hcs => ?_)
    obtain ⟨hlen, hcl, hone⟩ := hcs
    refine TR.open1 (open_node (.tail _ (.tail _ ht))) (fun _ => ?_)
    have hk4 := hs.2.1
    refine TR.openP (open_arr (oa := oa) (xs := ints (i0 :: is)) (.tail _ (.tail _ (.tail _ ha))) (ints_ne (by simp))) (fun q hpa => ?_)
    refine TR.skip ?_
    refine NX.seq ?_
    refine TR.seq ?_
    refine TR.region ?_
    refine RL.move rfl rfl rfl ?_
    refine RL.indexAddr rfl v_tl22 v_tz3 (congrArg (fun a => some (Value.slice a _ _)) hpa) rfl (by omega) (by omega) rfl ?_
    refine RL.loadF rfl rfl (fun w K hF => run_loadCell1 (j := (0 : Int).toNat * 1) (v := I i0) (hF _ (.head _)) v_ts3 rfl) rfl ?_
    refine RL.assign rfl rfl rfl ?_
    refine RL.nil ?_
    refine NX.seq ?_
    refine TR.seq ?_
    refine TR.seq ?_
    refine TR.region ?_
    refine RL.move rfl rfl rfl ?_
    refine RL.bin rfl rfl rfl BinV.lss rfl ?_
    refine RL.move rfl rfl rfl ?_
    refine RL.part (fun h5 => ?_) (fun h5 => ?_)
    · skip
      have hout : i0 < 0 ∨ (t.kids.length : Int) ≤ i0 := by have := of_decide_eq_true h5; omega
      refine RL.skip rfl rfl rfl ?_
      refine RL.skip rfl rfl rfl ?_
      refine RL.skip rfl rfl rfl ?_
      refine RL.skip rfl rfl rfl ?_
      refine RL.skip rfl rfl rfl ?_
      refine RL.pickT rfl rfl rfl rfl ?_
      refine RL.nil ?_
      refine NX.seq ?_
      refine TR.condT rfl ?_
      refine TR.seq ?_
      refine TR.region ?_
      refine RL.build rfl rfl (v_bv25_) rfl ?_
      refine RL.storeA 0 rfl rfl rfl rfl v_tz25 rfl rfl ?_
      refine RL.assign rfl rfl rfl ?_
      refine RL.nil ?_
      refine NX.seq ?_
      refine TR.ret ?_
      refine NX.retThen ?_
      have h9 : replR t (i0 :: is) u = (.node 0 0 [] [], false) := by unfold replR; rw [repl_out hout]
      refine NX.retC1 (j := 0) rfl rfl rfl rfl v_ta25 (fun w hw => ⟨⟨⟨.node 0 0 [] [], none, 0, 0⟩, by rw [h9]⟩, (by show _ = Value.tuple #[nodeV (.node 0 0 [] []) none 0 0, .bool (replR t (i0 :: is) u).2]; rw [h9]; rfl), ?_⟩)
      exact ((((hw.drop 0 rfl).drop 0 rfl).drop 0 rfl).facts (fun φ h => by simp [h])).leafT 0 0 []
    · skip
      have hneg := of_decide_eq_false h5
      refine RL.move rfl rfl rfl ?_
      refine RL.fieldAddr rfl v_tf25_3 rfl rfl ?_
      refine RL.load1 2 rfl v_ts23 rfl rfl rfl rfl ?_
      refine RL.lenSlice rfl v_tl23 rfl rfl ?_
      refine RL.bin rfl rfl rfl BinV.geq rfl ?_
      refine RL.pickF rfl rfl rfl rfl ?_
      refine RL.nil ?_
      refine NX.seq ?_
      refine TR.cond rfl (fun h6 => ?_) (fun h6 => ?_)
      · skip
        have hout : i0 < 0 ∨ (t.kids.length : Int) ≤ i0 := by have := of_decide_eq_true h6; omega
        refine TR.seq ?_
        refine TR.region ?_
        refine RL.build rfl rfl (v_bv25_) rfl ?_
        refine RL.storeA 0 rfl rfl rfl rfl v_tz25 rfl rfl ?_
        refine RL.assign rfl rfl rfl ?_
        refine RL.nil ?_
        refine NX.seq ?_
        refine TR.ret ?_
        refine NX.retThen ?_
        have h9 : replR t (i0 :: is) u = (.node 0 0 [] [], false) := by unfold replR; rw [repl_out hout]
        refine NX.retC1 (j := 0) rfl rfl rfl rfl v_ta25 (fun w hw => ⟨⟨⟨.node 0 0 [] [], none, 0, 0⟩, by rw [h9]⟩, (by show _ = Value.tuple #[nodeV (.node 0 0 [] []) none 0 0, .bool (replR t (i0 :: is) u).2]; rw [h9]; rfl), ?_⟩)
        exact ((((hw.drop 0 rfl).drop 0 rfl).drop 0 rfl).facts (fun φ h => by simp [h])).leafT 0 0 []
      · skip
        have hge := of_decide_eq_false h6
        obtain ⟨i, hi⟩ := Int.eq_ofNat_of_zero_le (show 0 ≤ i0 by omega)
        subst hi
        have hik : i < t.kids.length := by omega
        refine TR.openP (open_kid (a := a) (ks := t.kids) (.tail _ (.head _)) (List.getElem?_eq_getElem hik)) (fun w2 hw2 => ?_)
        refine TR.weak (fun w hw => hw.addFact (ArrF (cutA oa 1 ca 1) (ints is)) (fun K hf => by
          have h9 := ArrAt.cut (size := 1) (cap := ca) (n := is.length + 1) (hf _ (by first | exact ha | exact .tail _ ha | exact .tail _ (.tail _ ha) | exact .tail _ (.tail _ (.tail _ ha)) | exact .tail _ (.tail _ (.tail _ (.tail _ ha))) | exact .tail _ (.tail _ (.tail _ (.tail _ (.tail _ ha)))) | exact .tail _ (.tail _ (.tail _ (.tail _ (.tail _ (.tail _ ha))))) | exact .tail _ (.tail _ (.tail _ (.tail _ (.tail _ (.tail _ (.tail _ ha)))))) | exact .tail _ (.tail _ (.tail _ (.tail _ (.tail _ (.tail _ (.tail _ (.tail _ ha))))))))) 1 (is.length + 1) (by simp) (Nat.le_refl _) (by simpa using hpc)
          show ArrAt _ _ _ _
          simp at h9
          rwa [List.take_of_length_le (by simp)] at h9)) ?_
        refine TR.skip ?_
        refine NX.seq ?_
        refine TR.seq ?_
        refine TR.sub (E' := [(0, _), (1, _), (2, _), (3, _), (5, _), (6, _), (7, _), (8, _), (12, _), (13, _), (14, _), (16, _), (17, _), (18, _), (19, _), (20, _), (21, _), (22, _), (23, _), (24, _), (25, _), (26, _), (27, _)]) ⟨rfl, rfl, rfl, rfl, rfl, rfl, rfl, rfl, rfl, rfl, rfl, rfl, rfl, rfl, rfl, rfl, rfl, rfl, rfl, rfl, rfl, rfl, rfl, trivial⟩ ?_
        refine TR.draw mixed ?_
        apply AR.more [(0, _), (1, _), (2, _), (3, _), (4, _), (5, _), (6, _), (7, _)]
        refine AR.effs [0, 1, 2, 3, 4, 5, 6, 7] [8, 12] [0, 1, 2, 3, 4, 5, 6, 7, 8, 9, 10, 11, 12, 13, 14] ⟨QOne.yes rfl rfl rfl (PV.fieldAddr v_tf25_3 rfl), QOne.yes rfl rfl rfl (PV.load1 2 v_ts23 rfl rfl rfl), QOne.yes rfl rfl rfl (PV.move rfl), QOne.yes rfl rfl rfl (PV.indexAddr v_tl23 v_tz25 (congrArg (fun a => some (Value.slice a _ _)) hw2) rfl (by omega) (by omega)), QOne.yes rfl rfl rfl (PV.loadF rfl (fun w K hF => run_loadCellsAt (hF _ (.tail _ (.head _))) v_ta25)), QOne.yes rfl rfl rfl (PV.move rfl), QOne.yes rfl rfl rfl (PV.sliceLH (l := 1) (h := ((i : Int) :: is).length) v_tl22 v_tz3 rfl (.inr ⟨_, rfl, rfl⟩) (.inl ⟨rfl, rfl⟩) (by simp) (by simp at hpc ⊢; omega)), QOne.yes rfl rfl rfl (PV.loadA 1 rfl rfl v_ta25), trivial⟩ rfl rfl rfl rfl ⟨EOne.of rfl rfl rfl (EV.call rfl Try.call25 (refReplace_spec (hs.kid (List.getElem_mem hik)) (by omega) (by first | exact .tail _ (.tail _ (.head _)) | exact .tail _ (.tail _ (.tail _ (.head _)))) (by first | exact hu | exact .tail _ hu | exact .tail _ (.tail _ hu) | exact .tail _ (.tail _ (.tail _ hu)) | exact .tail _ (.tail _ (.tail _ (.tail _ hu))) | exact .tail _ (.tail _ (.tail _ (.tail _ (.tail _ hu)))) | exact .tail _ (.tail _ (.tail _ (.tail _ (.tail _ (.tail _ hu))))) | exact .tail _ (.tail _ (.tail _ (.tail _ (.tail _ (.tail _ (.tail _ hu))))))) (by first | exact .head _ | exact .tail _ (.head _)) (by omega) (by omega))) (fun z => ?_), EOne.of rfl rfl rfl (EV.allocA (Try.zeroValue25)) (fun b7 => ?_), trivial⟩
        · skip
          refine AR.done [4, 6, 7, 5, 3, 1, 2, 0] rfl ?_
          apply AR.more [(9, _), (10, _), (11, _)]
          refine AR.eff [9, 10, 11] 12 [0, 1, 2, 3, 4, 5, 6, 7, 8, 9, 10, 11, 12, 13, 14] ⟨QOne.yes rfl rfl rfl (PV.move rfl), QOne.yes rfl rfl rfl (PV.extract rfl rfl), QOne.yes rfl rfl rfl (PV.extract rfl rfl), trivial⟩ rfl rfl rfl rfl rfl rfl rfl (EV.allocA (Try.zeroValue25)) (fun b8 => ?_)
          refine AR.eff [9, 10, 11] 13 [0, 1, 2, 3, 4, 5, 6, 7, 8, 9, 10, 11, 12, 13, 14] ⟨QOne.yes rfl rfl rfl (PV.move rfl), QOne.yes rfl rfl rfl (PV.extract rfl rfl), QOne.yes rfl rfl rfl (PV.extract rfl rfl), trivial⟩ rfl rfl rfl rfl rfl rfl rfl (EV.storeA 0 rfl rfl rfl v_tz25 rfl rfl) (fun _ => ?_)
          refine AR.done [10, 9] rfl ?_
          apply AR.more [(14, _)]
          refine AR.last [11, 14] [0, 1, 2, 3, 4, 5, 6, 7, 8, 9, 10, 11, 12, 13, 14] ⟨QOne.yes rfl rfl rfl (PV.extract rfl rfl), QOne.yes rfl rfl rfl (PV.assign rfl), trivial⟩ rfl rfl rfl ?_
          refine NX.sub (E' := [(0, _), (1, _), (2, _), (3, _), (5, _), (6, _), (7, _), (8, _), (9, _), (10, _), (12, _), (13, _), (14, _), (16, _), (17, _), (18, _), (19, _), (20, _), (21, _), (22, _), (23, _), (24, _), (25, _), (26, _), (27, _)]) ⟨rfl, rfl, rfl, rfl, rfl, rfl, rfl, rfl, rfl, rfl, rfl, rfl, rfl, rfl, rfl, rfl, rfl, rfl, rfl, rfl, rfl, rfl, rfl, rfl, rfl, trivial⟩ ?_
          refine NX.seq ?_
          refine TR.seq ?_
          refine TR.seq ?_
          refine TR.region ?_
          refine RL.move rfl rfl rfl ?_
          refine RL.not rfl rfl rfl ?_
          refine RL.nil ?_
          refine NX.seq ?_
          refine TR.cond rfl (fun h9 => ?_) (fun h9 => ?_)
          · skip
            have hno : (replR t.kids[i] is u).2 = false := by simpa using h9
            refine TR.seq ?_
            refine TR.region ?_
            refine RL.build rfl rfl (v_bv25_) rfl ?_
            refine RL.storeA 1 rfl rfl rfl rfl v_tz25 rfl rfl ?_
            refine RL.assign rfl rfl rfl ?_
            refine RL.nil ?_
            refine NX.seq ?_
            refine TR.ret ?_
            refine NX.retThen ?_
            have h9 : replR t ((i : Int) :: is) u = (.node 0 0 [] [], false) := by
              unfold replR at hno ⊢
              rw [repl_in hik]
              cases hr : repl t.kids[i] is u with
              | none => rfl
              | some v => rw [hr] at hno; cases hno
            refine NX.retC1 (j := 1) rfl rfl rfl rfl v_ta25 (fun w hw => ⟨⟨⟨.node 0 0 [] [], none, 0, 0⟩, by rw [h9]⟩, (by show _ = Value.tuple #[nodeV (.node 0 0 [] []) none 0 0, .bool (replR t ((i : Int) :: is) u).2]; rw [h9]; rfl), ?_⟩)
            exact (((((hw.drop 0 rfl).drop 0 rfl).drop 0 rfl).drop 0 rfl).facts (fun φ h => by simp [h])).leafT 0 0 []
          · skip
            have hyes : (replR t.kids[i] is u).2 = true := by simpa using h9
            refine TR.skip ?_
            refine NX.seq ?_
            refine TR.seq ?_
            refine TR.region ?_
            refine RL.assign rfl rfl rfl ?_
            refine RL.weak (fun w hw => OwnSl.nil_new 25 4 hw) ?_
            refine RL.nil ?_
            refine NX.seq ?_
            refine TR.seq ?_
            refine TR.region ?_
            refine RL.move rfl rfl rfl ?_
            refine RL.fieldAddr rfl v_tf25_3 rfl rfl ?_
            refine RL.load1 4 rfl v_ts23 rfl rfl rfl rfl ?_
            refine RL.ofGV rfl rfl (GV.append (j := 0) v_tl23 v_ni23 v_te25 rfl rfl rfl (src_fact (oa := a) (xs := cs) (by first | exact .head _ | exact .tail _ (.head _) | exact .tail _ (.tail _ (.head _)) | exact .tail _ (.tail _ (.tail _ (.head _))) | exact .tail _ (.tail _ (.tail _ (.tail _ (.head _)))) | exact .tail _ (.tail _ (.tail _ (.tail _ (.tail _ (.head _))))) | exact .tail _ (.tail _ (.tail _ (.tail _ (.tail _ (.tail _ (.head _)))))) | exact .tail _ (.tail _ (.tail _ (.tail _ (.tail _ (.tail _ (.tail _ (.head _))))))) | exact .tail _ (.tail _ (.tail _ (.tail _ (.tail _ (.tail _ (.tail _ (.tail _ (.head _)))))))) | exact .tail _ (.tail _ (.tail _ (.tail _ (.tail _ (.tail _ (.tail _ (.tail _ (.tail _ (.head _))))))))) | exact .tail _ (.tail _ (.tail _ (.tail _ (.tail _ (.tail _ (.tail _ (.tail _ (.tail _ (.tail _ (.head _)))))))))) | exact .tail _ (.tail _ (.tail _ (.tail _ (.tail _ (.tail _ (.tail _ (.tail _ (.tail _ (.tail _ (.tail _ (.head _))))))))))) | exact .tail _ (.tail _ (.tail _ (.tail _ (.tail _ (.tail _ (.tail _ (.tail _ (.tail _ (.tail _ (.tail _ (.tail _ (.head _))))))))))))) (by omega) hone) (by omega) (by omega)) (fun y => ?_)
            refine RL.assign rfl rfl rfl ?_
            refine RL.nil ?_
            refine NX.seq ?_
            refine TR.seq ?_
            refine TR.region ?_
            refine RL.move rfl rfl rfl ?_
            refine RL.move rfl rfl rfl ?_
            refine RL.loadA 1 rfl rfl rfl v_ta25 rfl ?_
            refine RL.openP (fun w hw => own_at (i := 0) (xs := [] ++ cs) rfl (by intro e; rw [List.nil_append] at e; rw [e] at hcl; simp at hcl; omega) hw) (fun b0 hz => ?_)
            refine RL.indexAddr rfl v_tl23 v_tz25 (congrArg (fun a => some (Value.slice a _ _)) hz) rfl (by omega) (by omega) rfl ?_
            refine RL.ofEV rfl rfl (EV.storeO (vs := z.1.c) 0 rfl rfl rfl hz v_tz25 rfl (by simp; omega) rfl) ?_
            refine RL.nil ?_
            refine NX.seq ?_
            refine TR.seq ?_
            refine TR.region ?_
            refine RL.move rfl rfl rfl ?_
            refine RL.fieldAddr rfl v_tf25_3 rfl rfl ?_
            refine RL.store1 4 rfl v_ts23 rfl rfl rfl rfl rfl ?_
            refine RL.nil ?_
            refine NX.seq ?_
            refine TR.seq ?_
            refine TR.region ?_
            refine RL.loadA 4 rfl rfl rfl v_ta25 rfl ?_
            refine RL.storeA 2 rfl rfl rfl rfl v_tz25 rfl rfl ?_
            refine RL.assign rfl rfl rfl ?_
            refine RL.nil ?_
            refine NX.seq ?_
            refine TR.ret ?_
            have h9 : replR t ((i : Int) :: is) u = (.node t.id t.kind t.txt (t.kids.set i z.1.t), true) := replR_yes hik hyes z.2
            refine NX.retC1 (j := 2) rfl rfl rfl rfl v_ta25 (fun w hw => ?_)
            have e1 : 0 + (i : Int).toNat * 4 = i * 4 := by simp
            have e2 : 0 + len = t.kids.length := by omega
            have hw2 : St w (OwnSl 25 4 y.1 (0 + len) y.2 ((([] ++ cs).take (0 + (i : Int).toNat * 4)) ++ z.1.c ++ ([] ++ cs).drop (0 + (i : Int).toNat * 4 + z.1.c.length)) :: _) _ := hw
            rw [e1, e2, List.nil_append] at hw2
            have h8 := (hw2.addFact (TreesF (t.kids.set i z.1.t) (cs.take (i * 4) ++ z.1.c ++ cs.drop (i * 4 + z.1.c.length))) (fun K hf => TreesAt.set hik (hf (TreesF t.kids cs) (by first | exact .head _ | exact .tail _ (.head _) | exact .tail _ (.tail _ (.head _)) | exact .tail _ (.tail _ (.tail _ (.head _))) | exact .tail _ (.tail _ (.tail _ (.tail _ (.head _)))) | exact .tail _ (.tail _ (.tail _ (.tail _ (.tail _ (.head _))))) | exact .tail _ (.tail _ (.tail _ (.tail _ (.tail _ (.tail _ (.head _)))))) | exact .tail _ (.tail _ (.tail _ (.tail _ (.tail _ (.tail _ (.tail _ (.head _))))))) | exact .tail _ (.tail _ (.tail _ (.tail _ (.tail _ (.tail _ (.tail _ (.tail _ (.head _)))))))) | exact .tail _ (.tail _ (.tail _ (.tail _ (.tail _ (.tail _ (.tail _ (.tail _ (.tail _ (.head _))))))))) | exact .tail _ (.tail _ (.tail _ (.tail _ (.tail _ (.tail _ (.tail _ (.tail _ (.tail _ (.tail _ (.head _)))))))))) | exact .tail _ (.tail _ (.tail _ (.tail _ (.tail _ (.tail _ (.tail _ (.tail _ (.tail _ (.tail _ (.tail _ (.head _))))))))))) | exact .tail _ (.tail _ (.tail _ (.tail _ (.tail _ (.tail _ (.tail _ (.tail _ (.tail _ (.tail _ (.tail _ (.tail _ (.head _)))))))))))))) (hf (TreeF z.1.t z.1.v) (by first | exact .head _ | exact .tail _ (.head _) | exact .tail _ (.tail _ (.head _)) | exact .tail _ (.tail _ (.tail _ (.head _))) | exact .tail _ (.tail _ (.tail _ (.tail _ (.head _)))) | exact .tail _ (.tail _ (.tail _ (.tail _ (.tail _ (.head _))))) | exact .tail _ (.tail _ (.tail _ (.tail _ (.tail _ (.tail _ (.head _)))))) | exact .tail _ (.tail _ (.tail _ (.tail _ (.tail _ (.tail _ (.tail _ (.head _))))))) | exact .tail _ (.tail _ (.tail _ (.tail _ (.tail _ (.tail _ (.tail _ (.tail _ (.head _)))))))) | exact .tail _ (.tail _ (.tail _ (.tail _ (.tail _ (.tail _ (.tail _ (.tail _ (.tail _ (.head _))))))))) | exact .tail _ (.tail _ (.tail _ (.tail _ (.tail _ (.tail _ (.tail _ (.tail _ (.tail _ (.tail _ (.head _)))))))))) | exact .tail _ (.tail _ (.tail _ (.tail _ (.tail _ (.tail _ (.tail _ (.tail _ (.tail _ (.tail _ (.tail _ (.head _))))))))))) | exact .tail _ (.tail _ (.tail _ (.tail _ (.tail _ (.tail _ (.tail _ (.tail _ (.tail _ (.tail _ (.tail _ (.tail _ (.head _)))))))))))))))).treeSl (.node t.id t.kind t.txt (t.kids.set i z.1.t)) (.head _)
            refine ⟨⟨⟨.node t.id t.kind t.txt (t.kids.set i z.1.t), y.1, t.kids.length, y.2⟩, by rw [h9]⟩, (by show _ = Value.tuple #[nodeV (.node t.id t.kind t.txt (t.kids.set i z.1.t)) y.1 t.kids.length y.2, .bool (replR t ((i : Int) :: is) u).2]; rw [h9, ← e2]; rfl), ?_⟩
            exact ((((h8.2.drop 0 rfl).drop 0 rfl).drop 0 rfl).drop 0 rfl).facts (fun φ h => by
              rcases List.mem_cons.1 h with e | h
              · subst e; exact .head _
              · simp [h])
        · skip
          refine AR.eff [0, 1, 2, 3, 4, 5, 6, 7] 8 [0, 1, 2, 3, 4, 5, 6, 7, 8, 9, 10, 11, 12, 13, 14] ⟨QOne.yes rfl rfl rfl (PV.fieldAddr v_tf25_3 rfl), QOne.yes rfl rfl rfl (PV.load1 3 v_ts23 rfl rfl rfl), QOne.yes rfl rfl rfl (PV.move rfl), QOne.yes rfl rfl rfl (PV.indexAddr v_tl23 v_tz25 (congrArg (fun a => some (Value.slice a _ _)) hw2) rfl (by omega) (by omega)), QOne.yes rfl rfl rfl (PV.loadF rfl (fun w K hF => run_loadCellsAt (hF _ (.tail _ (.head _))) v_ta25)), QOne.yes rfl rfl rfl (PV.move rfl), QOne.yes rfl rfl rfl (PV.sliceLH (l := 1) (h := ((i : Int) :: is).length) v_tl22 v_tz3 rfl (.inr ⟨_, rfl, rfl⟩) (.inl ⟨rfl, rfl⟩) (by simp) (by simp at hpc ⊢; omega)), QOne.yes rfl rfl rfl (PV.loadA 2 rfl rfl v_ta25), trivial⟩ rfl rfl rfl rfl rfl rfl rfl (EV.call rfl Try.call25 (refReplace_spec (hs.kid (List.getElem_mem hik)) (by omega) (by first | exact .tail _ (.tail _ (.head _)) | exact .tail _ (.tail _ (.tail _ (.head _)))) (by first | exact hu | exact .tail _ hu | exact .tail _ (.tail _ hu) | exact .tail _ (.tail _ (.tail _ hu)) | exact .tail _ (.tail _ (.tail _ (.tail _ hu))) | exact .tail _ (.tail _ (.tail _ (.tail _ (.tail _ hu)))) | exact .tail _ (.tail _ (.tail _ (.tail _ (.tail _ (.tail _ hu))))) | exact .tail _ (.tail _ (.tail _ (.tail _ (.tail _ (.tail _ (.tail _ hu))))))) (by first | exact .head _ | exact .tail _ (.head _)) (by omega) (by omega))) (fun z => ?_)
          refine AR.done [4, 6, 7, 5, 3, 1, 2, 0] rfl ?_
          apply AR.more [(9, _), (10, _), (11, _)]
          refine AR.eff [9, 10, 11] 13 [0, 1, 2, 3, 4, 5, 6, 7, 8, 9, 10, 11, 12, 13, 14] ⟨QOne.yes rfl rfl rfl (PV.move rfl), QOne.yes rfl rfl rfl (PV.extract rfl rfl), QOne.yes rfl rfl rfl (PV.extract rfl rfl), trivial⟩ rfl rfl rfl rfl rfl rfl rfl (EV.storeA 0 rfl rfl rfl v_tz25 rfl rfl) (fun _ => ?_)
          refine AR.done [10, 9] rfl ?_
          apply AR.more [(14, _)]
          refine AR.last [11, 14] [0, 1, 2, 3, 4, 5, 6, 7, 8, 9, 10, 11, 12, 13, 14] ⟨QOne.yes rfl rfl rfl (PV.extract rfl rfl), QOne.yes rfl rfl rfl (PV.assign rfl), trivial⟩ rfl rfl rfl ?_
          refine NX.sub (E' := [(0, _), (1, _), (2, _), (3, _), (5, _), (6, _), (7, _), (8, _), (9, _), (10, _), (12, _), (13, _), (14, _), (16, _), (17, _), (18, _), (19, _), (20, _), (21, _), (22, _), (23, _), (24, _), (25, _), (26, _), (27, _)]) ⟨rfl, rfl, rfl, rfl, rfl, rfl, rfl, rfl, rfl, rfl, rfl, rfl, rfl, rfl, rfl, rfl, rfl, rfl, rfl, rfl, rfl, rfl, rfl, rfl, rfl, trivial⟩ ?_
          refine NX.seq ?_
          refine TR.seq ?_
          refine TR.seq ?_
          refine TR.region ?_
          refine RL.move rfl rfl rfl ?_
          refine RL.not rfl rfl rfl ?_
          refine RL.nil ?_
          refine NX.seq ?_
          refine TR.cond rfl (fun h11 => ?_) (fun h11 => ?_)
          · skip
            have hno : (replR t.kids[i] is u).2 = false := by simpa using h11
            refine TR.seq ?_
            refine TR.region ?_
            refine RL.build rfl rfl (v_bv25_) rfl ?_
            refine RL.storeA 1 rfl rfl rfl rfl v_tz25 rfl rfl ?_
            refine RL.assign rfl rfl rfl ?_
            refine RL.nil ?_
            refine NX.seq ?_
            refine TR.ret ?_
            refine NX.retThen ?_
            have h9 : replR t ((i : Int) :: is) u = (.node 0 0 [] [], false) := by
              unfold replR at hno ⊢
              rw [repl_in hik]
              cases hr : repl t.kids[i] is u with
              | none => rfl
              | some v => rw [hr] at hno; cases hno
            refine NX.retC1 (j := 1) rfl rfl rfl rfl v_ta25 (fun w hw => ⟨⟨⟨.node 0 0 [] [], none, 0, 0⟩, by rw [h9]⟩, (by show _ = Value.tuple #[nodeV (.node 0 0 [] []) none 0 0, .bool (replR t ((i : Int) :: is) u).2]; rw [h9]; rfl), ?_⟩)
            exact (((((hw.drop 0 rfl).drop 0 rfl).drop 0 rfl).drop 0 rfl).facts (fun φ h => by simp [h])).leafT 0 0 []
          · skip
            have hyes : (replR t.kids[i] is u).2 = true := by simpa using h11
            refine TR.skip ?_
            refine NX.seq ?_
            refine TR.seq ?_
            refine TR.region ?_
            refine RL.assign rfl rfl rfl ?_
            refine RL.weak (fun w hw => OwnSl.nil_new 25 4 hw) ?_
            refine RL.nil ?_
            refine NX.seq ?_
            refine TR.seq ?_
            refine TR.region ?_
            refine RL.move rfl rfl rfl ?_
            refine RL.fieldAddr rfl v_tf25_3 rfl rfl ?_
            refine RL.load1 4 rfl v_ts23 rfl rfl rfl rfl ?_
            refine RL.ofGV rfl rfl (GV.append (j := 0) v_tl23 v_ni23 v_te25 rfl rfl rfl (src_fact (oa := a) (xs := cs) (by first | exact .head _ | exact .tail _ (.head _) | exact .tail _ (.tail _ (.head _)) | exact .tail _ (.tail _ (.tail _ (.head _))) | exact .tail _ (.tail _ (.tail _ (.tail _ (.head _)))) | exact .tail _ (.tail _ (.tail _ (.tail _ (.tail _ (.head _))))) | exact .tail _ (.tail _ (.tail _ (.tail _ (.tail _ (.tail _ (.head _)))))) | exact .tail _ (.tail _ (.tail _ (.tail _ (.tail _ (.tail _ (.tail _ (.head _))))))) | exact .tail _ (.tail _ (.tail _ (.tail _ (.tail _ (.tail _ (.tail _ (.tail _ (.head _)))))))) | exact .tail _ (.tail _ (.tail _ (.tail _ (.tail _ (.tail _ (.tail _ (.tail _ (.tail _ (.head _))))))))) | exact .tail _ (.tail _ (.tail _ (.tail _ (.tail _ (.tail _ (.tail _ (.tail _ (.tail _ (.tail _ (.head _)))))))))) | exact .tail _ (.tail _ (.tail _ (.tail _ (.tail _ (.tail _ (.tail _ (.tail _ (.tail _ (.tail _ (.tail _ (.head _))))))))))) | exact .tail _ (.tail _ (.tail _ (.tail _ (.tail _ (.tail _ (.tail _ (.tail _ (.tail _ (.tail _ (.tail _ (.tail _ (.head _))))))))))))) (by omega) hone) (by omega) (by omega)) (fun y => ?_)
            refine RL.assign rfl rfl rfl ?_
            refine RL.nil ?_
            refine NX.seq ?_
            refine TR.seq ?_
            refine TR.region ?_
            refine RL.move rfl rfl rfl ?_
            refine RL.move rfl rfl rfl ?_
            refine RL.loadA 1 rfl rfl rfl v_ta25 rfl ?_
            refine RL.openP (fun w hw => own_at (i := 0) (xs := [] ++ cs) rfl (by intro e; rw [List.nil_append] at e; rw [e] at hcl; simp at hcl; omega) hw) (fun b0 hz => ?_)
            refine RL.indexAddr rfl v_tl23 v_tz25 (congrArg (fun a => some (Value.slice a _ _)) hz) rfl (by omega) (by omega) rfl ?_
            refine RL.ofEV rfl rfl (EV.storeO (vs := z.1.c) 0 rfl rfl rfl hz v_tz25 rfl (by simp; omega) rfl) ?_
            refine RL.nil ?_
            refine NX.seq ?_
            refine TR.seq ?_
            refine TR.region ?_
            refine RL.move rfl rfl rfl ?_
            refine RL.fieldAddr rfl v_tf25_3 rfl rfl ?_
            refine RL.store1 4 rfl v_ts23 rfl rfl rfl rfl rfl ?_
            refine RL.nil ?_
            refine NX.seq ?_
            refine TR.seq ?_
            refine TR.region ?_
            refine RL.loadA 4 rfl rfl rfl v_ta25 rfl ?_
            refine RL.storeA 2 rfl rfl rfl rfl v_tz25 rfl rfl ?_
            refine RL.assign rfl rfl rfl ?_
            refine RL.nil ?_
            refine NX.seq ?_
            refine TR.ret ?_
            have h9 : replR t ((i : Int) :: is) u = (.node t.id t.kind t.txt (t.kids.set i z.1.t), true) := replR_yes hik hyes z.2
            refine NX.retC1 (j := 2) rfl rfl rfl rfl v_ta25 (fun w hw => ?_)
            have e1 : 0 + (i : Int).toNat * 4 = i * 4 := by simp
            have e2 : 0 + len = t.kids.length := by omega
            have hw2 : St w (OwnSl 25 4 y.1 (0 + len) y.2 ((([] ++ cs).take (0 + (i : Int).toNat * 4)) ++ z.1.c ++ ([] ++ cs).drop (0 + (i : Int).toNat * 4 + z.1.c.length)) :: _) _ := hw
            rw [e1, e2, List.nil_append] at hw2
            have h8 := (hw2.addFact (TreesF (t.kids.set i z.1.t) (cs.take (i * 4) ++ z.1.c ++ cs.drop (i * 4 + z.1.c.length))) (fun K hf => TreesAt.set hik (hf (TreesF t.kids cs) (by first | exact .head _ | exact .tail _ (.head _) | exact .tail _ (.tail _ (.head _)) | exact .tail _ (.tail _ (.tail _ (.head _))) | exact .tail _ (.tail _ (.tail _ (.tail _ (.head _)))) | exact .tail _ (.tail _ (.tail _ (.tail _ (.tail _ (.head _))))) | exact .tail _ (.tail _ (.tail _ (.tail _ (.tail _ (.tail _ (.head _)))))) | exact .tail _ (.tail _ (.tail _ (.tail _ (.tail _ (.tail _ (.tail _ (.head _))))))) | exact .tail _ (.tail _ (.tail _ (.tail _ (.tail _ (.tail _ (.tail _ (.tail _ (.head _)))))))) | exact .tail _ (.tail _ (.tail _ (.tail _ (.tail _ (.tail _ (.tail _ (.tail _ (.tail _ (.head _))))))))) | exact .tail _ (.tail _ (.tail _ (.tail _ (.tail _ (.tail _ (.tail _ (.tail _ (.tail _ (.tail _ (.head _)))))))))) | exact .tail _ (.tail _ (.tail _ (.tail _ (.tail _ (.tail _ (.tail _ (.tail _ (.tail _ (.tail _ (.tail _ (.head _))))))))))) | exact .tail _ (.tail _ (.tail _ (.tail _ (.tail _ (.tail _ (.tail _ (.tail _ (.tail _ (.tail _ (.tail _ (.tail _ (.head _)))))))))))))) (hf (TreeF z.1.t z.1.v) (by first | exact .head _ | exact .tail _ (.head _) | exact .tail _ (.tail _ (.head _)) | exact .tail _ (.tail _ (.tail _ (.head _))) | exact .tail _ (.tail _ (.tail _ (.tail _ (.head _)))) | exact .tail _ (.tail _ (.tail _ (.tail _ (.tail _ (.head _))))) | exact .tail _ (.tail _ (.tail _ (.tail _ (.tail _ (.tail _ (.head _)))))) | exact .tail _ (.tail _ (.tail _ (.tail _ (.tail _ (.tail _ (.tail _ (.head _))))))) | exact .tail _ (.tail _ (.tail _ (.tail _ (.tail _ (.tail _ (.tail _ (.tail _ (.head _)))))))) | exact .tail _ (.tail _ (.tail _ (.tail _ (.tail _ (.tail _ (.tail _ (.tail _ (.tail _ (.head _))))))))) | exact .tail _ (.tail _ (.tail _ (.tail _ (.tail _ (.tail _ (.tail _ (.tail _ (.tail _ (.tail _ (.head _)))))))))) | exact .tail _ (.tail _ (.tail _ (.tail _ (.tail _ (.tail _ (.tail _ (.tail _ (.tail _ (.tail _ (.tail _ (.head _))))))))))) | exact .tail _ (.tail _ (.tail _ (.tail _ (.tail _ (.tail _ (.tail _ (.tail _ (.tail _ (.tail _ (.tail _ (.tail _ (.head _)))))))))))))))).treeSl (.node t.id t.kind t.txt (t.kids.set i z.1.t)) (.head _)
            refine ⟨⟨⟨.node t.id t.kind t.txt (t.kids.set i z.1.t), y.1, t.kids.length, y.2⟩, by rw [h9]⟩, (by show _ = Value.tuple #[nodeV (.node t.id t.kind t.txt (t.kids.set i z.1.t)) y.1 t.kids.length y.2, .bool (replR t ((i : Int) :: is) u).2]; rw [h9, ← e2]; rfl), ?_⟩
            exact ((((h8.2.drop 0 rfl).drop 0 rfl).drop 0 rfl).drop 0 rfl).facts (fun φ h => by
              rcases List.mem_cons.1 h with e | h
              · subst e; exact .head _
              · simp [h])

end Go.Proofs.Ytnolpmigiboanaa
