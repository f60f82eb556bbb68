/- The law DocumentRemembers holds: whatever the input, it returns true and the input reads as it did. No condition. -/
import Derived.Test.YtkdeopioelocnaaRmxe
set_option linter.unusedVariables false
set_option linter.unusedSimpArgs false
namespace Go.Proofs.Ytkdeopioelocnaa
open Go.GL
set_option linter.unusedVariables false
theorem rf_bs23_1_0 (x00 : Int) (x01 : Option Addr) (x01n x01c : Nat) : BuildSV Try.prog 23 39 1 [(0, .agg #[.int .i64 x00, .slice x01 x01n x01c])] [.int .i64 x00, .slice x01 x01n x01c] := fun w => by kernel_rfl
theorem rf_ni23 : noInt Try.prog 23 = true := by kernel_rfl
theorem rf_ta39 : tyAgg Try.prog 39 2 = true := by kernel_rfl
theorem rf_te39 : tyElem Try.prog 39 2 32 = true := by kernel_rfl
theorem rf_tf101_3 : fieldOff Try.prog 101 3 3 = true := by kernel_rfl
theorem rf_tf39_0 : fieldOff Try.prog 39 0 0 = true := by kernel_rfl
theorem rf_tf39_1 : fieldOff Try.prog 39 1 1 = true := by kernel_rfl
theorem rf_tl23 : tySlice Try.prog 23 39 = true := by kernel_rfl
theorem rf_tl28 : tySlice Try.prog 28 63 = true := by kernel_rfl
theorem rf_ts23 : tyScalar Try.prog 23 = true := by kernel_rfl
theorem rf_ts28 : tyScalar Try.prog 28 = true := by kernel_rfl
theorem rf_ts3 : tyScalar Try.prog 3 = true := by kernel_rfl
theorem rf_tz39 : tySize Try.prog 39 2 = true := by kernel_rfl
set_option maxHeartbeats 1000000 in
theorem rrecv_spec {ver : Int} {l : List PE} {oa : Option Addr} {ca : Nat} {b : Nat} {d : RD} {h : Hs} {M : List HP} {F : List Fact} (hr : RelR d h) (hD : RdF d ∈ F) (hl : ArrF oa (peC l) ∈ F) (hll : l.length ≤ 1099511627776) (htp : txsP l ≤ 1099511627776) (hver : I64 ver) : Ctr Try.prog 23 [.pointer (some ⟨b, 0, none⟩), .agg #[I ver, .slice oa l.length ca]] (RdB 101 9 26 39 b (d) :: M) F {q : RD // RelR q (recvH h ver l).2} (fun _ => .tuple #[I (recvH h ver l).1.1, I (recvH h ver l).1.2]) (fun q => RdB 101 9 26 39 b (q.1) :: M) (fun q => RdF q.1 :: F) := by
  refine Ctr.body Try.func23 rfl rfl ?_
  refine TR.seq ?_
  refine TR.region ?_
  refine RL.boxA rfl rfl rfl (fun b1 => ?_)
  refine RL.assign rfl rfl rfl ?_
  refine RL.assign rfl rfl rfl ?_
  refine RL.nil ?_
  refine NX.seq ?_
  refine TR.seq ?_
  refine TR.seq ?_
  have hrl := hr.len
  have hv0 := hr.ok.v0
  have hv1x := hr.ok.v1
  refine TR.region ?_
  refine RL.fieldAddr rfl rf_tf39_0 rfl rfl ?_
  refine RL.load1 0 rfl rf_ts3 rfl rfl rfl rfl ?_
  refine RL.bin rfl rfl rfl BinV.lss rfl ?_
  refine RL.move rfl rfl rfl ?_
  refine RL.part (fun h2 => ?_) (fun h2 => ?_)
  · skip
    have hbad : ver < 1 ∨ 1099511627776 < ver := .inl (of_decide_eq_true h2)
    refine RL.skip rfl rfl rfl ?_
    refine RL.skip rfl rfl rfl ?_
    refine RL.skip rfl rfl rfl ?_
    refine RL.pickT rfl rfl rfl rfl ?_
    refine RL.nil ?_
    refine NX.seq ?_
    refine TR.condT rfl ?_
    refine TR.seq ?_
    refine TR.region ?_
    refine RL.assign rfl rfl rfl ?_
    refine RL.assign rfl rfl rfl ?_
    refine RL.nil ?_
    refine NX.seq ?_
    refine TR.ret ?_
    refine NX.retThen ?_
    have hre : recvH h ver l = ((0, 1), h) := if_pos hbad
    exact NX.ret2 (⟨d, by rw [hre]; exact hr⟩ : {q : RD // RelR q (recvH h ver l).2}) rfl rfl rfl (by rw [hre]) (fun w hw => (show St w (RdB 101 9 26 39 b (d) :: M) F from (hw.to 2 [1] 0 [] rfl)).derive (ψ := RdF d) (fun K hf => hf _ hD))
  · skip
    have hb1 := of_decide_eq_false h2
    refine RL.fieldAddr rfl rf_tf39_0 rfl rfl ?_
    refine RL.load1 0 rfl rf_ts3 rfl rfl rfl rfl ?_
    refine RL.bin rfl rfl rfl BinV.gtr rfl ?_
    refine RL.pickF rfl rfl rfl rfl ?_
    refine RL.nil ?_
    refine NX.seq ?_
    refine TR.cond rfl (fun h3 => ?_) (fun h3 => ?_)
    · skip
      have hbad : ver < 1 ∨ 1099511627776 < ver := .inr (of_decide_eq_true h3)
      refine TR.seq ?_
      refine TR.region ?_
      refine RL.assign rfl rfl rfl ?_
      refine RL.assign rfl rfl rfl ?_
      refine RL.nil ?_
      refine NX.seq ?_
      refine TR.ret ?_
      refine NX.retThen ?_
      have hre : recvH h ver l = ((0, 1), h) := if_pos hbad
      exact NX.ret2 (⟨d, by rw [hre]; exact hr⟩ : {q : RD // RelR q (recvH h ver l).2}) rfl rfl rfl (by rw [hre]) (fun w hw => (show St w (RdB 101 9 26 39 b (d) :: M) F from (hw.to 2 [1] 0 [] rfl)).derive (ψ := RdF d) (fun K hf => hf _ hD))
    · skip
      have hc1 : ¬ (ver < 1 ∨ 1099511627776 < ver) := by have := of_decide_eq_false h3; omega
      refine TR.skip ?_
      refine NX.seq ?_
      refine TR.seq ?_
      refine TR.seq ?_
      refine TR.region ?_
      refine RL.fieldAddr rfl rf_tf39_1 rfl rfl ?_
      refine RL.load1 0 rfl rf_ts28 rfl rfl rfl rfl ?_
      refine RL.lenSlice rfl rf_tl28 rfl rfl ?_
      refine RL.bin rfl rfl rfl BinV.gtr rfl ?_
      refine RL.nil ?_
      refine NX.seq ?_
      refine TR.cond rfl (fun h4 => ?_) (fun h4 => ?_)
      · skip
        have hbig : 64 < l.length := by have := of_decide_eq_true h4; omega
        refine TR.seq ?_
        refine TR.region ?_
        refine RL.assign rfl rfl rfl ?_
        refine RL.assign rfl rfl rfl ?_
        refine RL.nil ?_
        refine NX.seq ?_
        refine TR.ret ?_
        refine NX.retThen ?_
        have hre : recvH h ver l = ((0, 4), h) := (if_neg hc1).trans (if_pos hbig)
        exact NX.ret2 (⟨d, by rw [hre]; exact hr⟩ : {q : RD // RelR q (recvH h ver l).2}) rfl rfl rfl (by rw [hre]) (fun w hw => (show St w (RdB 101 9 26 39 b (d) :: M) F from (hw.to 2 [1] 0 [] rfl)).derive (ψ := RdF d) (fun K hf => hf _ hD))
      · skip
        have hc2 : ¬ 64 < l.length := by have := of_decide_eq_false h4; omega
        refine TR.skip ?_
        refine NX.seq ?_
        refine TR.seq ?_
        refine TR.seq ?_
        refine TR.sub (E' := [(0, _), (3, _), (4, _), (5, _)]) ⟨rfl, rfl, rfl, rfl, trivial⟩ ?_
        refine TR.draw mixed ?_
        apply AR.more [(0, _), (1, _), (2, _)]
        refine AR.eff [0, 1, 2] 3 [0, 1, 2, 3, 4, 5, 6, 7, 8, 9, 10, 11] ⟨QOne.yes rfl rfl rfl (PV.fieldAddr rf_tf39_0 rfl), QOne.yes rfl rfl rfl (PV.load1 0 rf_ts3 rfl rfl rfl), QOne.yes rfl rfl rfl (PV.move rfl), trivial⟩ rfl rfl rfl rfl rfl rfl rfl (EV.call rfl Try.call58 (Ctr.pick 2 [1, 0] rfl (rversion_spec hr))) (fun _ => ?_)
        refine AR.done [2] rfl ?_
        cases h5 : decide (ver ≤ h.v)
        · skip
          have hnv : ¬ ver ≤ h.v := of_decide_eq_false h5
          apply AR.more [(4, _), (5, .bool false), (6, _), (7, _), (8, _)]
          refine AR.eff [0, 1, 4, 5, 6, 7, 8] 9 [0, 1, 2, 3, 4, 5, 6, 7, 8, 9, 10, 11] ⟨QOne.yes rfl rfl rfl (PV.fieldAddr rf_tf39_0 rfl), QOne.yes rfl rfl rfl (PV.load1 1 rf_ts3 rfl rfl rfl), QOne.yes rfl rfl rfl (PV.bin rfl rfl BinV.leq), QOne.yes rfl rfl rfl (PV.cast (congrArg Value.bool h5) (PV.move rfl)), QOne.yes rfl rfl rfl (PV.move rfl), QOne.yes rfl rfl rfl (PV.fieldAddr rf_tf39_0 rfl), QOne.yes rfl rfl rfl (PV.load1 1 rf_ts3 rfl rfl rfl), trivial⟩ rfl rfl rfl rfl rfl rfl rfl (EV.call rfl Try.call59 (rfind_spec (k := ver) hr)) (fun zf => ?_)
          refine AR.done [6, 8, 5, 4, 7, 1, 0] rfl ?_
          apply AR.more [(10, _), (11, _)]
          refine AR.last [10, 11] [0, 1, 2, 3, 4, 5, 6, 7, 8, 9, 10, 11] ⟨QOne.yes rfl rfl rfl (PV.bin rfl rfl BinV.geq), QOne.yes rfl rfl rfl (PV.pickF rfl rfl), trivial⟩ rfl rfl rfl ?_
          refine NX.sub (E' := [(0, _), (3, _), (4, _), (5, _), (34, _)]) ⟨rfl, rfl, rfl, rfl, rfl, trivial⟩ ?_
          refine NX.seq ?_
          refine TR.cond rfl (fun h6 => ?_) (fun h6 => ?_)
          · skip
            have htw : ver ≤ h.v ∨ (hGet h.held ver).isSome = true := .inr (by obtain ⟨_, _, _, _, h8, _⟩ := zf.2.yes hr (of_decide_eq_true h6); rw [h8]; rfl)
            refine TR.seq ?_
            refine TR.region ?_
            refine RL.assign rfl rfl rfl ?_
            refine RL.assign rfl rfl rfl ?_
            refine RL.nil ?_
            refine NX.seq ?_
            refine TR.ret ?_
            refine NX.retThen ?_
            have hre : recvH h ver l = ((0, 8), h) := (if_neg hc1).trans ((if_neg hc2).trans (if_pos htw))
            exact NX.ret2 (⟨d, by rw [hre]; exact hr⟩ : {q : RD // RelR q (recvH h ver l).2}) rfl rfl rfl (by rw [hre]) (fun w hw => (show St w (RdB 101 9 26 39 b (d) :: M) F from (hw.to 2 [0] 0 [] rfl)).derive (ψ := RdF d) (fun K hf => hf _ hD))
          · skip
            have hc3 : ¬ (ver ≤ h.v ∨ (hGet h.held ver).isSome = true) := fun e => by
              rcases e with e | e
              · exact hnv e
              · rw [zf.2.no hr (of_decide_eq_false h6)] at e; cases e
            refine TR.skip ?_
            refine NX.seq ?_
            refine TR.seq ?_
            refine TR.seq ?_
            refine TR.sub (E' := [(0, _), (3, _), (4, _), (5, _)]) ⟨rfl, rfl, rfl, rfl, trivial⟩ ?_
            refine TR.draw mixed ?_
            apply AR.more [(0, _), (1, _), (2, _)]
            refine AR.eff [0, 1, 2] 3 [0, 1, 2, 3, 4, 5] ⟨QOne.yes rfl rfl rfl (PV.fieldAddr rf_tf39_0 rfl), QOne.yes rfl rfl rfl (PV.load1 1 rf_ts3 rfl rfl rfl), QOne.yes rfl rfl rfl (PV.move rfl), trivial⟩ rfl rfl rfl rfl rfl rfl rfl (EV.call rfl Try.call58 (rversion_spec hr)) (fun _ => ?_)
            refine AR.done [2] rfl ?_
            apply AR.more [(4, _), (5, _)]
            refine AR.last [0, 1, 4, 5] [0, 1, 2, 3, 4, 5] ⟨QOne.yes rfl rfl rfl (PV.fieldAddr rf_tf39_0 rfl), QOne.yes rfl rfl rfl (PV.load1 1 rf_ts3 rfl rfl rfl), QOne.yes rfl rfl rfl (PV.bin rfl rfl (BinV.add (h.v + 1) rfl (by omega) (by omega))), QOne.yes rfl rfl rfl (PV.bin rfl rfl BinV.gtr), trivial⟩ rfl rfl rfl ?_
            refine NX.sub (E' := [(0, _), (3, _), (4, _), (5, _), (40, _)]) ⟨rfl, rfl, rfl, rfl, rfl, trivial⟩ ?_
            refine NX.seq ?_
            refine TR.cond rfl (fun h7 => ?_) (fun h7 => ?_)
            · skip
              have hea : h.v + 1 < ver := of_decide_eq_true h7
              refine TR.seq ?_
              refine TR.seq ?_
              refine TR.open (fun w hw => (St.exOpen (show St w (Ex _ :: _) _ from hw))) (fun ic => ?_)
              refine TR.region ?_
              refine RL.move rfl rfl rfl ?_
              refine RL.nilCheck rfl rfl rfl ?_
              refine RL.fieldAddr rfl rf_tf101_3 rfl rfl ?_
              refine RL.load1 0 rfl rf_ts23 rfl rfl rfl rfl ?_
              refine RL.lenSlice rfl rf_tl23 rfl rfl ?_
              refine RL.bin rfl rfl rfl BinV.geq rfl ?_
              refine RL.nil ?_
              refine NX.seq ?_
              refine TR.cond rfl (fun h8 => ?_) (fun h8 => ?_)
              · skip
                have hfull : 16 ≤ h.held.length := by have := of_decide_eq_true h8; omega
                refine TR.seq ?_
                refine TR.region ?_
                refine RL.assign rfl rfl rfl ?_
                refine RL.assign rfl rfl rfl ?_
                refine RL.nil ?_
                refine NX.seq ?_
                refine TR.ret ?_
                refine NX.retThen ?_
                refine NX.retThen ?_
                have hre : recvH h ver l = ((0, 4), h) := (if_neg hc1).trans ((if_neg hc2).trans ((if_neg hc3).trans ((if_pos hea).trans (if_pos hfull))))
                exact NX.ret2 (⟨d, by rw [hre]; exact hr⟩ : {q : RD // RelR q (recvH h ver l).2}) rfl rfl rfl (by rw [hre]) (fun w hw => (show St w (RdB 101 9 26 39 b (d) :: M) F from St.rdClose (d := d) rfl rfl rfl rfl rfl rfl rfl (hw.to 5 [0, 1, 2, 3] 0 [] rfl)).derive (ψ := RdF d) (fun K hf => hf _ hD))
              · skip
                have hfull : ¬ 16 ≤ h.held.length := by have := of_decide_eq_false h8; omega
                refine TR.skip ?_
                refine NX.seq ?_
                refine TR.seq ?_
                refine TR.sub (E' := [(0, _), (3, _), (4, _), (5, _)]) ⟨rfl, rfl, rfl, rfl, trivial⟩ ?_
                refine TR.draw mixed ?_
                apply AR.more [(0, _), (1, _), (2, _), (3, _), (4, _), (5, _)]
                refine AR.eff [0, 1, 2, 3, 4, 5] 6 [0, 1, 2, 3, 4, 5, 6, 7, 8, 9, 10] ⟨QOne.yes rfl rfl rfl (PV.move rfl), QOne.yes rfl rfl rfl (PV.move rfl), QOne.yes rfl rfl rfl (PV.nilCheck rfl), QOne.yes rfl rfl rfl (PV.fieldAddr rf_tf101_3 rfl), QOne.yes rfl rfl rfl (PV.load1 0 rf_ts23 rfl rfl rfl), QOne.yes rfl rfl rfl (PV.loadA 4 rfl rfl rf_ta39), trivial⟩ rfl rfl rfl rfl rfl rfl rfl (EV.buildSlice rfl (rf_bs23_1_0 _ _ _ _)) (fun b9 => ?_)
                refine AR.done [5] rfl ?_
                refine AR.eff [0, 1, 2, 3, 4] 7 [0, 1, 2, 3, 4, 5, 6, 7, 8, 9, 10] ⟨QOne.yes rfl rfl rfl (PV.move rfl), QOne.yes rfl rfl rfl (PV.move rfl), QOne.yes rfl rfl rfl (PV.nilCheck rfl), QOne.yes rfl rfl rfl (PV.fieldAddr rf_tf101_3 rfl), QOne.yes rfl rfl rfl (PV.load1 1 rf_ts23 rfl rfl rfl), trivial⟩ rfl rfl rfl rfl rfl rfl rfl (EV.ofGV (GV.append (j := 4) rf_tl23 rf_ni23 rf_te39 rfl rfl rfl (src_box (i := 0) rfl rfl rfl) (by omega) (by omega))) (fun y0 => ?_)
                refine AR.done [4, 3, 2, 1] rfl ?_
                apply AR.more [(8, _), (9, _)]
                refine AR.eff [0, 8, 9] 10 [0, 1, 2, 3, 4, 5, 6, 7, 8, 9, 10] ⟨QOne.yes rfl rfl rfl (PV.move rfl), QOne.yes rfl rfl rfl (PV.nilCheck rfl), QOne.yes rfl rfl rfl (PV.fieldAddr rf_tf101_3 rfl), trivial⟩ rfl rfl rfl rfl rfl rfl rfl (EV.store1 1 rf_ts23 rfl rfl rfl rfl rfl) (fun _ => ?_)
                refine AR.done [9, 0, 8] rfl ?_
                refine AR.last [] [0, 1, 2, 3, 4, 5, 6, 7, 8, 9, 10] trivial rfl rfl rfl ?_
                refine NX.sub (E' := [(0, _), (3, _), (4, _), (5, _)]) ⟨rfl, rfl, rfl, rfl, trivial⟩ ?_
                refine NX.seq ?_
                refine TR.seq ?_
                refine TR.region ?_
                refine RL.assign rfl rfl rfl ?_
                refine RL.assign rfl rfl rfl ?_
                refine RL.nil ?_
                refine NX.seq ?_
                refine TR.ret ?_
                refine NX.retThen ?_
                have hre : recvH h ver l = ((0, 0), { h with held := h.held ++ [(ver, l)] }) := (if_neg hc1).trans ((if_neg hc2).trans ((if_neg hc3).trans ((if_pos hea).trans (if_neg hfull))))
                have hok := recvH_ok (ver := ver) (l := l) hr.ok htp
                rw [hre] at hok
                refine NX.ret2 (⟨({ d with held := d.held ++ [(⟨ver, l, oa, ca⟩ : HeR)] } : RD), by rw [hre]; exact hr.put (x := (⟨ver, l, oa, ca⟩ : HeR)) hok⟩ : {q : RD // RelR q (recvH h ver l).2}) rfl rfl rfl (by rw [hre]) (fun w hw => ?_)
                have h9 : St w (RdB 101 9 26 39 b (({ d with held := d.held ++ [(⟨ver, l, oa, ca⟩ : HeR)] } : RD)) :: M) F := St.rdClose (d := ({ d with held := d.held ++ [(⟨ver, l, oa, ca⟩ : HeR)] } : RD)) rfl rfl rfl (by rw [List.length_append]; rfl) rfl rfl (by rw [heC_append]; rfl) (hw.to 6 [1, 2, 3, 4] 0 [] rfl)
                exact h9.derive (ψ := RdF ({ d with held := d.held ++ [(⟨ver, l, oa, ca⟩ : HeR)] } : RD)) (fun K hf => RdF.put (hf _ hD) (hf _ hl))
            · skip
              have hea : ¬ h.v + 1 < ver := of_decide_eq_false h7
              have hv1 : h.v < 1099511627776 := by omega
              refine TR.skip ?_
              refine NX.seq ?_
              refine TR.seq ?_
              refine TR.region ?_
              refine RL.move rfl rfl rfl ?_
              refine RL.fieldAddr rfl rf_tf39_1 rfl rfl ?_
              refine RL.load1 1 rfl rf_ts28 rfl rfl rfl rfl ?_
              refine RL.call rfl rfl Try.call60 rfl (rapp_spec (l := l) hr hD hl (by omega) htp hv1) (fun q => ?_)
              refine RL.assign rfl rfl rfl ?_
              refine RL.nil ?_
              refine NX.seq ?_
              refine TR.seq ?_
              refine TR.seq ?_
              refine TR.region ?_
              refine RL.move rfl rfl rfl ?_
              refine RL.bin rfl rfl rfl BinV.neq rfl ?_
              refine RL.nil ?_
              refine NX.seq ?_
              refine TR.cond rfl (fun h11 => ?_) (fun h11 => ?_)
              · skip
                have hae : (appH h l).1 ≠ 0 := of_decide_eq_true h11
                refine TR.seq ?_
                refine TR.region ?_
                refine RL.move rfl rfl rfl ?_
                refine RL.assign rfl rfl rfl ?_
                refine RL.assign rfl rfl rfl ?_
                refine RL.nil ?_
                refine NX.seq ?_
                refine TR.ret ?_
                refine NX.retThen ?_
                have hre : recvH h ver l = ((0, (appH h l).1), h) := (if_neg hc1).trans ((if_neg hc2).trans ((if_neg hc3).trans ((if_neg hea).trans (if_pos hae))))
                refine NX.ret2 (⟨q.1, by rw [hre]; exact q.2.of ((appH_ok (l := l) hr.ok hv1).2.2 hae)⟩ : {q : RD // RelR q (recvH h ver l).2}) rfl rfl rfl (by rw [hre]) (fun w hw => (hw.to 2 [0] 1 [0] rfl))
              · skip
                have hae : ¬ (appH h l).1 ≠ 0 := of_decide_eq_false h11
                refine TR.skip ?_
                refine NX.seq ?_
                refine TR.seq ?_
                refine TR.region ?_
                refine RL.assign rfl rfl rfl ?_
                refine RL.nil ?_
                refine NX.seq ?_
                refine TR.seq ?_
                refine TR.block ?_
                refine TR.loopP (ι := RrX) (fun x => RelR x.d x.h ∧ drainH x.n x.h = drainH 1 (appH h l).2 ∧ 1 ≤ x.n ∧ x.n + x.h.held.length ≤ 17) (fun x => [(0, .pointer (some ⟨b, 0, none⟩)), (7, I x.n)]) (fun x => RdB 101 9 26 39 b (x.d) :: M) (fun x => RdF x.d :: F) (fun x => x.h.held.length) ⟨1, q.1, (appH h l).2⟩ ⟨q.2, rfl, Int.le_refl _, by show (1 : Int) + ((appH h l).2.held.length : Int) ≤ 17; rw [appH_held]; have := hr.ok.few; omega⟩ ⟨rfl, rfl, trivial⟩ (fun w hw => (hw.to 2 [0] 1 [0] rfl)) (fun x hx => ?_)
                refine TR.seq ?_
                refine TR.seq ?_
                have hv0x := hx.1.ok.v0
                have hv1y := hx.1.ok.v1
                have hnx := hx.2.2
                have hxl := hx.1.len
                refine TR.region ?_
                refine RL.move rfl rfl rfl ?_
                refine RL.move rfl rfl rfl ?_
                refine RL.call rfl rfl Try.call58 rfl (rversion_spec hx.1) (fun _ => ?_)
                refine RL.bin rfl rfl rfl (BinV.add (x.h.v + 1) rfl (by omega) (by omega)) rfl ?_
                refine RL.call rfl rfl Try.call59 rfl (rfind_spec (k := x.h.v + 1) hx.1) (fun z1 => ?_)
                refine RL.bin rfl rfl rfl BinV.geq rfl ?_
                refine RL.nil ?_
                refine NX.seq ?_
                refine TR.cond rfl (fun h12 => ?_) (fun h12 => ?_)
                · skip
                  have hz1 : 0 ≤ z1.1 := of_decide_eq_true h12
                  refine TR.skip ?_
                  refine NX.seq ?_
                  refine TR.block ?_
                  refine TR.seq ?_
                  refine TR.region ?_
                  refine RL.move rfl rfl rfl ?_
                  refine RL.move rfl rfl rfl ?_
                  refine RL.call rfl rfl Try.call58 rfl (rversion_spec hx.1) (fun _ => ?_)
                  refine RL.bin rfl rfl rfl (BinV.add (x.h.v + 1) rfl (by omega) (by omega)) rfl ?_
                  refine RL.call rfl rfl Try.call59 rfl (rfind_spec (k := x.h.v + 1) hx.1) (fun z2 => ?_)
                  obtain ⟨zv, zh⟩ := z2
                  obtain ⟨i, rfl, hi, hki, hgs, hdel⟩ := zh.yes hx.1 (by
                    by_cases e : 0 ≤ zv
                    · exact e
                    · obtain ⟨_, _, _, _, h8, _⟩ := z1.2.yes hx.1 hz1
                      rw [zh.no hx.1 e] at h8; cases h8)
                  dsimp only
                  refine RL.assign rfl rfl rfl ?_
                  refine RL.nil ?_
                  refine NX.seq ?_
                  refine TR.seq ?_
                  have hrg : 1 ≤ x.h.v + 1 ∧ x.h.v + 1 ≤ 1099511627776 ∧ x.d.held[i].l.length ≤ 64 ∧ txsP x.d.held[i].l ≤ 1099511627776 := hx.1.ok.rng _ (hGet_mem hgs)
                  obtain ⟨hrg1, hrg2, hrg3, hrg4⟩ := hrg
                  have hlt := hDel_lt hgs
                  refine TR.open (fun w hw => (St.exOpen (show St w (Ex _ :: _) _ from hw))) (fun ic => ?_)
                  refine TR.openP (fun w hw => own_at (i := 3) rfl (heC_ne (by omega)) hw) (fun gh hgh => ?_)
                  refine TR.open1 (fun w hw => ⟨(hw.front (i := 3) rfl).ownLen, hw⟩) (fun hol => ?_)
                  refine TR.region ?_
                  refine RL.move rfl rfl rfl ?_
                  refine RL.nilCheck rfl rfl rfl ?_
                  refine RL.fieldAddr rfl rf_tf101_3 rfl rfl ?_
                  refine RL.load1 0 rfl rf_ts23 rfl rfl rfl rfl ?_
                  refine RL.move rfl rfl rfl ?_
                  refine RL.indexAddr rfl rf_tl23 rf_tz39 (congrArg (fun a => some (Value.slice a _ _)) hgh) rfl (by omega) (by omega) rfl ?_
                  refine RL.loadS rfl rfl (own_agg (vs := x.d.held[i].cs) (i := 3) rfl hgh rf_ta39 (fun j v hj => heC_at1 (l := x.d.held) (k := i) (j := j) hi hj)) rfl ?_
                  refine RL.allocA rfl (Try.zeroValue39) rfl (fun b13 => ?_)
                  refine RL.storeA 0 rfl rfl rfl rfl rf_tz39 rfl rfl ?_
                  refine RL.nil ?_
                  refine NX.seq ?_
                  refine TR.seq ?_
                  refine TR.region ?_
                  refine RL.assign rfl rfl rfl ?_
                  refine RL.weak (fun w hw => OwnSl.nil_new 39 2 hw) ?_
                  refine RL.nil ?_
                  refine NX.seq ?_
                  refine TR.seq ?_
                  refine TR.region ?_
                  refine RL.move rfl rfl rfl ?_
                  refine RL.move rfl rfl rfl ?_
                  refine RL.nilCheck rfl rfl rfl ?_
                  refine RL.fieldAddr rfl rf_tf101_3 rfl rfl ?_
                  refine RL.load1 2 rfl rf_ts23 rfl rfl rfl rfl ?_
                  refine RL.move rfl rfl rfl ?_
                  refine RL.sliceLH (l := 0) (h := i) rfl rf_tl23 rf_tz39 rfl (.inl ⟨rfl, rfl⟩) (.inr ⟨_, rfl, rfl⟩) (by omega) (by omega) rfl ?_
                  refine RL.ofGV rfl rfl (GV.append (j := 0) rf_tl23 rf_ni23 rf_te39 rfl rfl rfl (src_rd ((rd_own (i := 5) rfl).heTake i (by omega) hol.2) (by rw [heC_length, List.length_take]; omega) (heC_one _)) (by omega) (by omega)) (fun y1 => ?_)
                  refine RL.assign rfl rfl rfl ?_
                  refine RL.nil ?_
                  refine NX.seq ?_
                  refine TR.seq ?_
                  refine TR.region ?_
                  refine RL.move rfl rfl rfl ?_
                  refine RL.move rfl rfl rfl ?_
                  refine RL.move rfl rfl rfl ?_
                  refine RL.nilCheck rfl rfl rfl ?_
                  refine RL.fieldAddr rfl rf_tf101_3 rfl rfl ?_
                  refine RL.load1 2 rfl rf_ts23 rfl rfl rfl rfl ?_
                  refine RL.move rfl rfl rfl ?_
                  refine RL.bin rfl rfl rfl (BinV.add ((i + 1 : Nat) : Int) (by omega) (by omega) (by omega)) rfl ?_
                  refine RL.sliceLH (l := i + 1) (h := x.d.held.length) rfl rf_tl23 rf_tz39 rfl (.inr ⟨_, rfl, rfl⟩) (.inl ⟨rfl, rfl⟩) (by omega) hol.2 rfl ?_
                  refine RL.ofGV rfl rfl (GV.append (j := 0) rf_tl23 rf_ni23 rf_te39 rfl rfl rfl (src_rd ((rd_own (i := 5) rfl).heDrop (i + 1) (by omega) hol.2) (by rw [heC_length, List.length_drop]) (heC_one _)) (by omega) (by omega)) (fun y2 => ?_)
                  refine RL.nilCheck rfl rfl rfl ?_
                  refine RL.fieldAddr rfl rf_tf101_3 rfl rfl ?_
                  refine RL.store1 2 rfl rf_ts23 rfl rfl rfl rfl rfl ?_
                  refine RL.nil ?_
                  refine NX.seq ?_
                  refine TR.seq ?_
                  have hdl := congrArg List.length hdel
                  rw [List.length_append, List.length_take, List.length_drop] at hdl
                  have hr2 : RelR ({ x.d with held := heDel x.d.held (x.h.v + 1) } : RD) ({ x.h with held := hDel x.h.held (x.h.v + 1) } : Hs) := hx.1.del _
                  have hv2 : ({ x.h with held := hDel x.h.held (x.h.v + 1) } : Hs).v < 1099511627776 := by show x.h.v < _; omega
                  refine TR.weak (fun w hw => St.rdClose (d := ({ x.d with held := heDel x.d.held (x.h.v + 1) } : RD)) rfl rfl rfl (by show _ = (heDel x.d.held _).length; omega) rfl rfl (by show _ = heC (heDel x.d.held _); rw [hdel, heC_append]; rfl) (show St w (_ :: _ :: _ :: _ :: _) _ from hw.toM 6 [2, 3, 4, 0, 1, 5] rfl)) ?_
                  refine TR.weak (fun w hw => (hw.derive (ψ := RdF ({ x.d with held := heDel x.d.held (x.h.v + 1) } : RD)) (fun K hf => RdF.del (hf (RdF x.d) (.head _)) _)).derive (ψ := ArrF x.d.held[i].oa (peC x.d.held[i].l)) (fun K hf => (hf (RdF x.d) (.tail _ (.head _))).2 _ (List.getElem_mem hi))) ?_
                  refine TR.region ?_
                  refine RL.move rfl rfl rfl ?_
                  refine RL.fieldAddr rfl rf_tf39_1 rfl rfl ?_
                  refine RL.load1 1 rfl rf_ts28 rfl rfl rfl rfl ?_
                  refine RL.call rfl rfl Try.call60 rfl (rapp_spec (l := x.d.held[i].l) hr2 (.tail _ (.head _)) (.head _) (by omega) (by omega) hv2) (fun q2 => ?_)
                  refine RL.assign rfl rfl rfl ?_
                  refine RL.nil ?_
                  refine NX.seq ?_
                  refine TR.seq ?_
                  refine TR.seq ?_
                  refine TR.region ?_
                  refine RL.move rfl rfl rfl ?_
                  refine RL.bin rfl rfl rfl BinV.neq rfl ?_
                  refine RL.nil ?_
                  refine NX.seq ?_
                  refine TR.cond rfl (fun h16 => ?_) (fun h16 => ?_)
                  · skip
                    have hae2 : ¬ (appH ({ x.h with held := hDel x.h.held (x.h.v + 1) } : Hs) x.d.held[i].l).1 = 0 := of_decide_eq_true h16
                    refine TR.seq ?_
                    refine TR.region ?_
                    refine RL.move rfl rfl rfl ?_
                    refine RL.assign rfl rfl rfl ?_
                    refine RL.assign rfl rfl rfl ?_
                    refine RL.nil ?_
                    refine NX.seq ?_
                    refine TR.ret ?_
                    refine NX.retThen ?_
                    refine NX.retBlock ?_
                    refine NX.retThen ?_
                    refine NX.retBlock ?_
                    refine NX.retThen ?_
                    have hre : recvH h ver l = ((x.n, 0), { x.h with held := hDel x.h.held (x.h.v + 1) }) := ((if_neg hc1).trans ((if_neg hc2).trans ((if_neg hc3).trans ((if_neg hea).trans (if_neg hae))))).trans (by rw [← hx.2.1, drainH_some hgs, if_neg hae2])
                    exact NX.ret2 (⟨q2.1, by rw [hre]; exact q2.2.of ((appH_ok (l := x.d.held[i].l) hr2.ok hv2).2.2 hae2)⟩ : {q : RD // RelR q (recvH h ver l).2}) rfl rfl rfl (by rw [hre]) (fun w hw => (hw.to 3 [0] 4 [0] rfl))
                  · skip
                    have hae2 : (appH ({ x.h with held := hDel x.h.held (x.h.v + 1) } : Hs) x.d.held[i].l).1 = 0 := Decidable.not_not.1 (of_decide_eq_false h16)
                    refine TR.skip ?_
                    refine NX.seq ?_
                    refine TR.region ?_
                    refine RL.move rfl rfl rfl ?_
                    refine RL.bin rfl rfl rfl (BinV.add _ rfl (by omega) (by omega)) rfl ?_
                    refine RL.assign rfl rfl rfl ?_
                    refine RL.nil ?_
                    refine NX.off ?_
                    refine NX.roundP ⟨x.n + 1, q2.1, (appH ({ x.h with held := hDel x.h.held (x.h.v + 1) } : Hs) x.d.held[i].l).2⟩ ⟨q2.2, by rw [← hx.2.1, drainH_some hgs, if_pos hae2], by show 1 ≤ x.n + 1; omega, by show x.n + 1 + ((appH ({ x.h with held := hDel x.h.held (x.h.v + 1) } : Hs) x.d.held[i].l).2.held.length : Int) ≤ 17; rw [appH_held]; show x.n + 1 + ((hDel x.h.held (x.h.v + 1)).length : Int) ≤ 17; omega⟩ (by show (appH ({ x.h with held := hDel x.h.held (x.h.v + 1) } : Hs) x.d.held[i].l).2.held.length < x.h.held.length; rw [appH_held]; exact hlt) ⟨rfl, rfl, trivial⟩ (fun w hw => (hw.to 3 [0] 4 [0] rfl))
                · skip
                  have hgn : hGet x.h.held (x.h.v + 1) = none := z1.2.no hx.1 (of_decide_eq_false h12)
                  refine TR.exit ?_
                  refine NX.exitThen ?_
                  refine NX.exitThen ?_
                  refine NX.exitHere ?_
                  refine NX.seq ?_
                  refine TR.seq ?_
                  refine TR.region ?_
                  refine RL.move rfl rfl rfl ?_
                  refine RL.assign rfl rfl rfl ?_
                  refine RL.assign rfl rfl rfl ?_
                  refine RL.nil ?_
                  refine NX.seq ?_
                  refine TR.ret ?_
                  have hre : recvH h ver l = ((x.n, 0), x.h) := ((if_neg hc1).trans ((if_neg hc2).trans ((if_neg hc3).trans ((if_neg hea).trans (if_neg hae))))).trans (by rw [← hx.2.1, drainH_none hgn])
                  exact NX.ret2 (⟨x.d, by rw [hre]; exact hx.1⟩ : {q : RD // RelR q (recvH h ver l).2}) rfl rfl rfl (by rw [hre]) (fun w hw => (hw.to 1 [0] 1 [0] rfl))
        · skip
          have htw : ver ≤ h.v ∨ (hGet h.held ver).isSome = true := .inl (of_decide_eq_true h5)
          apply AR.more [(4, _), (5, .bool true), (6, undef), (7, undef), (8, undef), (9, undef), (10, undef), (11, .bool true)]
          refine AR.last [0, 1, 4, 5, 6, 7, 8, 9, 10, 11] [0, 1, 2, 3, 4, 5, 6, 7, 8, 9, 10, 11] ⟨QOne.yes rfl rfl rfl (PV.fieldAddr rf_tf39_0 rfl), QOne.yes rfl rfl rfl (PV.load1 1 rf_ts3 rfl rfl rfl), QOne.yes rfl rfl rfl (PV.bin rfl rfl BinV.leq), QOne.yes rfl rfl rfl (PV.cast (congrArg Value.bool h5) (PV.move rfl)), QOne.no rfl rfl rfl, QOne.no rfl rfl rfl, QOne.no rfl rfl rfl, QOne.no rfl rfl rfl, QOne.no rfl rfl rfl, QOne.yes rfl rfl rfl (PV.pickT rfl rfl), trivial⟩ rfl rfl rfl ?_
          refine NX.sub (E' := [(0, _), (3, _), (4, _), (5, _), (34, _)]) ⟨rfl, rfl, rfl, rfl, rfl, trivial⟩ ?_
          refine NX.seq ?_
          refine TR.condT rfl ?_
          refine TR.seq ?_
          refine TR.region ?_
          refine RL.assign rfl rfl rfl ?_
          refine RL.assign rfl rfl rfl ?_
          refine RL.nil ?_
          refine NX.seq ?_
          refine TR.ret ?_
          refine NX.retThen ?_
          have hre : recvH h ver l = ((0, 8), h) := (if_neg hc1).trans ((if_neg hc2).trans (if_pos htw))
          exact NX.ret2 (⟨d, by rw [hre]; exact hr⟩ : {q : RD // RelR q (recvH h ver l).2}) rfl rfl rfl (by rw [hre]) (fun w hw => (show St w (RdB 101 9 26 39 b (d) :: M) F from (hw.to 2 [0] 0 [] rfl)).derive (ψ := RdF d) (fun K hf => hf _ hD))
end Go.Proofs.Ytkdeopioelocnaa

namespace Go.Proofs.Ytkdeopioelocnaa
open Go.GL
set_option linter.unusedVariables false
theorem rg_tf101_0 : fieldOff Try.prog 101 0 0 = true := by kernel_rfl
theorem rg_tf101_1 : fieldOff Try.prog 101 1 1 = true := by kernel_rfl
theorem rg_tf101_2 : fieldOff Try.prog 101 2 2 = true := by kernel_rfl
theorem rg_tf101_3 : fieldOff Try.prog 101 3 3 = true := by kernel_rfl
theorem rg_tl23 : tySlice Try.prog 23 39 = true := by kernel_rfl
theorem rg_tl98 : tySlice Try.prog 98 9 = true := by kernel_rfl
theorem rg_tl99 : tySlice Try.prog 99 26 = true := by kernel_rfl
theorem rg_ts23 : tyScalar Try.prog 23 = true := by kernel_rfl
theorem rg_ts26 : tyScalar Try.prog 26 = true := by kernel_rfl
theorem rg_ts3 : tyScalar Try.prog 3 = true := by kernel_rfl
theorem rg_ts9 : tyScalar Try.prog 9 = true := by kernel_rfl
theorem rg_ts98 : tyScalar Try.prog 98 = true := by kernel_rfl
theorem rg_ts99 : tyScalar Try.prog 99 = true := by kernel_rfl
theorem rg_tz26 : tySize Try.prog 26 1 = true := by kernel_rfl
theorem rg_tz9 : tySize Try.prog 9 1 = true := by kernel_rfl
theorem rat_spec {ver : Int} {b : Nat} {d : RD} {h : Hs} {M : List HP} {F : List Fact} (hr : RelR d h) (hver : I64 ver) : Ctr Try.prog 28 [.pointer (some ⟨b, 0, none⟩), I ver] (RdB 101 9 26 39 b (d) :: M) F Unit (fun _ => .tuple #[S (atH h ver).1, I (atH h ver).2]) (fun _ => RdB 101 9 26 39 b (d) :: M) (fun _ => F) := by
  obtain ⟨hver0, hver1⟩ := hver
  refine Ctr.body Try.func28 rfl rfl ?_
  refine TR.seq ?_
  refine TR.region ?_
  refine RL.assign rfl rfl rfl ?_
  refine RL.assign rfl rfl rfl ?_
  refine RL.nil ?_
  refine NX.seq ?_
  refine TR.seq ?_
  refine TR.region ?_
  refine RL.move rfl rfl rfl ?_
  refine RL.move rfl rfl rfl ?_
  refine RL.call rfl rfl Try.call62 rfl (rknown_spec (ver := ver) hr) (fun _ => ?_)
  refine RL.assign rfl rfl rfl ?_
  refine RL.nil ?_
  refine NX.seq ?_
  refine TR.seq ?_
  refine TR.seq ?_
  refine TR.region ?_
  refine RL.move rfl rfl rfl ?_
  refine RL.not rfl rfl rfl ?_
  refine RL.nil ?_
  refine NX.seq ?_
  refine TR.cond rfl (fun h1 => ?_) (fun h1 => ?_)
  · skip
    have hkn : ¬ (h.first ≤ ver ∧ ver ≤ h.v ∧ h.v - 16 ≤ ver) := by intro e; have h7 := h1; rw [decide_eq_true e] at h7; cases h7
    have hat : atH h ver = ([], 7) := by unfold atH; rw [idx_unknown hkn]
    refine TR.seq ?_
    refine TR.region ?_
    refine RL.assign rfl rfl rfl ?_
    refine RL.assign rfl rfl rfl ?_
    refine RL.nil ?_
    refine NX.seq ?_
    refine TR.ret ?_
    refine NX.retThen ?_
    exact NX.ret2 () rfl rfl rfl (by rw [hat]) (fun w hw => (hw.to 1 [0] 0 [] rfl))
  · skip
    have hkn : h.first ≤ ver ∧ ver ≤ h.v ∧ h.v - 16 ≤ ver := by simpa using h1
    have hff := hr.f
    have hrl := hr.len
    obtain ⟨k, hk1, hk⟩ : ∃ k : Nat, ver - d.f = k ∧ k < d.rows.length := ⟨(ver - d.f).toNat, by omega, by omega⟩
    have hix : idxH h ver = some k := by rw [idx_known hkn.1 hkn.2.1 hkn.2.2]; congr 1; omega
    have hrw := hr.row hk
    have hat : atH h ver = (d.rows[k].t, 0) := by unfold atH; rw [hix]; show ((h.hist.getD _ ([], [])).1, _) = _; rw [List.getD_eq_getElem?_getD, hrw]; rfl
    refine TR.skip ?_
    refine NX.seq ?_
    refine TR.seq ?_
    refine TR.open (fun w hw => (St.exOpen (show St w (Ex _ :: _) _ from hw))) (fun ic => ?_)
    refine TR.openP (fun w hw => own_at (i := 1) rfl (txC_ne hrl.2.1) hw) (fun gt hgt => ?_)
    refine TR.sub (E' := [(0, _), (1, _), (5, _)]) ⟨rfl, rfl, rfl, trivial⟩ ?_
    refine TR.draw mixed ?_
    apply AR.more [(0, _), (1, _), (2, _), (3, _), (4, _), (5, _), (6, _), (7, _), (8, _), (9, _), (10, _), (11, _), (12, _), (13, _)]
    refine AR.last [0, 1, 2, 3, 4, 5, 6, 7, 8, 9, 10, 11, 12, 13] [0, 1, 2, 3, 4, 5, 6, 7, 8, 9, 10, 11, 12, 13] ⟨QOne.yes rfl rfl rfl (PV.move rfl), QOne.yes rfl rfl rfl (PV.nilCheck rfl), QOne.yes rfl rfl rfl (PV.fieldAddr rg_tf101_1 rfl), QOne.yes rfl rfl rfl (PV.load1 0 rg_ts98 rfl rfl rfl), QOne.yes rfl rfl rfl (PV.move rfl), QOne.yes rfl rfl rfl (PV.move rfl), QOne.yes rfl rfl rfl (PV.nilCheck rfl), QOne.yes rfl rfl rfl (PV.fieldAddr rg_tf101_0 rfl), QOne.yes rfl rfl rfl (PV.load1 0 rg_ts3 rfl rfl rfl), QOne.yes rfl rfl rfl (PV.bin rfl rfl (BinV.sub ((k : Nat) : Int) hk1 (by omega) (by omega))), QOne.yes rfl rfl rfl (PV.indexAddr rg_tl98 rg_tz9 (congrArg (fun a => some (Value.slice a _ _)) hgt) rfl (by omega) (by omega)), QOne.yes rfl rfl rfl (PV.loadS rfl (own_one (i := 1) rfl hgt rg_ts9 (txC_at (i := ((k : Nat) : Int)) rfl hk))), QOne.yes rfl rfl rfl (PV.assign rfl), QOne.yes rfl rfl rfl (PV.assign rfl), trivial⟩ rfl rfl rfl ?_
    refine NX.sub (E' := [(4, _), (5, _)]) ⟨rfl, rfl, trivial⟩ ?_
    refine NX.seq ?_
    refine TR.ret ?_
    exact NX.ret2 () rfl rfl rfl (by rw [hat]) (fun w hw => St.rdClose (d := d) rfl rfl rfl rfl rfl rfl rfl (hw.to 4 [0, 1, 2, 3] 0 [] rfl))
set_option maxHeartbeats 1000000 in
theorem rsince_spec {ver : Int} {b : Nat} {d : RD} {h : Hs} {M : List HP} {F : List Fact} (hr : RelR d h) (hD : RdF d ∈ F) (hver : I64 ver) : Ctr Try.prog 29 [.pointer (some ⟨b, 0, none⟩), I ver] (RdB 101 9 26 39 b (d) :: M) F RdX (fun z => .tuple #[.slice z.oa (sinceH h ver).1.length z.c, I (sinceH h ver).2]) (fun _ => RdB 101 9 26 39 b (d) :: M) (fun z => ArrF z.oa (edC (sinceH h ver).1) :: F) := by
  obtain ⟨hver0, hver1⟩ := hver
  have hv1x := hr.ok.v1
  refine Ctr.body Try.func29 rfl rfl ?_
  refine TR.seq ?_
  refine TR.region ?_
  refine RL.assign rfl rfl rfl ?_
  refine RL.assign rfl rfl rfl ?_
  refine RL.nil ?_
  refine NX.seq ?_
  refine TR.seq ?_
  refine TR.region ?_
  refine RL.move rfl rfl rfl ?_
  refine RL.move rfl rfl rfl ?_
  refine RL.call rfl rfl Try.call62 rfl (rknown_spec (ver := ver) hr) (fun _ => ?_)
  refine RL.assign rfl rfl rfl ?_
  refine RL.nil ?_
  refine NX.seq ?_
  refine TR.seq ?_
  refine TR.seq ?_
  refine TR.region ?_
  refine RL.move rfl rfl rfl ?_
  refine RL.not rfl rfl rfl ?_
  refine RL.nil ?_
  refine NX.seq ?_
  refine TR.cond rfl (fun h1 => ?_) (fun h1 => ?_)
  · skip
    have hkn : ¬ (h.first ≤ ver ∧ ver ≤ h.v ∧ h.v - 16 ≤ ver) := by intro e; have h7 := h1; rw [decide_eq_true e] at h7; cases h7
    have hsi : sinceH h ver = ([], 7) := by unfold sinceH; rw [idx_unknown hkn]
    refine TR.seq ?_
    refine TR.region ?_
    refine RL.assign rfl rfl rfl ?_
    refine RL.assign rfl rfl rfl ?_
    refine RL.nil ?_
    refine NX.seq ?_
    refine TR.ret ?_
    refine NX.retThen ?_
    refine NX.ret2 (⟨none, 0⟩ : RdX) rfl rfl rfl (by rw [hsi]; rfl) (fun w hw => ?_)
    rw [hsi]
    exact ((hw.to 1 [0] 0 [] rfl) : St w (RdB 101 9 26 39 b (d) :: M) F).derive (ψ := ArrF none (edC [])) (fun K hf => .inl rfl)
  · skip
    have hkn : h.first ≤ ver ∧ ver ≤ h.v ∧ h.v - 16 ≤ ver := by simpa using h1
    have hff := hr.f
    have hrl := hr.len
    obtain ⟨k, hk1, hk⟩ : ∃ k : Nat, ver - d.f = k ∧ k < d.rows.length := ⟨(ver - d.f).toNat, by omega, by omega⟩
    have hix : idxH h ver = some k := by rw [idx_known hkn.1 hkn.2.1 hkn.2.2]; congr 1; omega
    have hrw := hr.row hk
    obtain ⟨tf, htf⟩ : ∃ tf, tf = d.rows[k].t := ⟨_, rfl⟩
    have hsi : sinceH h ver = (sinceGo tf h.tx (h.hist.drop (k + 1)) [], 0) := by unfold sinceH; rw [hix]; show (sinceGo (h.hist.getD k ([], [])).1 _ _ _, _) = _; rw [List.getD_eq_getElem?_getD, hrw, htf]; rfl
    have hs0 : (sinceH h ver).2 = 0 := by rw [hsi]
    have htx := hr.ok.tx
    have htl : tf.length ≤ 4096 := by have := (hr.ok.txt _ (List.mem_of_getElem? hrw)).1; rw [htf]; exact this
    refine TR.skip ?_
    refine NX.seq ?_
    refine TR.seq ?_
    refine TR.open (fun w hw => (St.exOpen (show St w (Ex _ :: _) _ from hw))) (fun ic => ?_)
    refine TR.openP (fun w hw => own_at (i := 1) rfl (txC_ne hrl.2.1) hw) (fun gt hgt => ?_)
    refine TR.sub (E' := [(0, _), (1, _), (4, _), (5, _)]) ⟨rfl, rfl, rfl, rfl, trivial⟩ ?_
    refine TR.draw mixed ?_
    apply AR.more [(0, _), (1, _), (2, _), (3, _), (4, _), (5, _), (6, _), (7, _), (8, _), (9, _), (10, _), (11, _), (12, _)]
    refine AR.last [0, 1, 2, 3, 4, 5, 6, 7, 8, 9, 10, 11, 12] [0, 1, 2, 3, 4, 5, 6, 7, 8, 9, 10, 11, 12] ⟨QOne.yes rfl rfl rfl (PV.move rfl), QOne.yes rfl rfl rfl (PV.nilCheck rfl), QOne.yes rfl rfl rfl (PV.fieldAddr rg_tf101_1 rfl), QOne.yes rfl rfl rfl (PV.load1 0 rg_ts98 rfl rfl rfl), QOne.yes rfl rfl rfl (PV.move rfl), QOne.yes rfl rfl rfl (PV.move rfl), QOne.yes rfl rfl rfl (PV.nilCheck rfl), QOne.yes rfl rfl rfl (PV.fieldAddr rg_tf101_0 rfl), QOne.yes rfl rfl rfl (PV.load1 0 rg_ts3 rfl rfl rfl), QOne.yes rfl rfl rfl (PV.bin rfl rfl (BinV.sub ((k : Nat) : Int) hk1 (by omega) (by omega))), QOne.yes rfl rfl rfl (PV.indexAddr rg_tl98 rg_tz9 (congrArg (fun a => some (Value.slice a _ _)) hgt) rfl (by omega) (by omega)), QOne.yes rfl rfl rfl (PV.loadS rfl (own_one (i := 1) rfl hgt rg_ts9 (show (txC d.rows)[0 + ((k : Nat) : Int).toNat * 1]? = some (S tf) from by rw [htf]; exact txC_at rfl hk))), QOne.yes rfl rfl rfl (PV.assign rfl), trivial⟩ rfl rfl rfl ?_
    refine NX.sub (E' := [(0, _), (1, _), (4, _), (5, _), (7, _)]) ⟨rfl, rfl, rfl, rfl, rfl, trivial⟩ ?_
    refine NX.seq ?_
    refine TR.seq ?_
    refine TR.weak (fun w hw => St.rdClose (d := d) rfl rfl rfl rfl rfl rfl rfl (show St w (_ :: _ :: _ :: _ :: _) _ from hw.toM 4 [0, 1, 2, 3] rfl)) ?_
    refine TR.region ?_
    refine RL.assign rfl rfl rfl ?_
    refine RL.weak (fun w hw => hw.derive (ψ := ArrF none (edC [])) (fun K hf => .inl rfl)) ?_
    refine RL.nil ?_
    refine NX.seq ?_
    refine TR.seq ?_
    refine TR.seq ?_
    refine TR.region ?_
    refine RL.move rfl rfl rfl ?_
    refine RL.bin rfl rfl rfl (BinV.add (ver + 1) rfl (by omega) (by omega)) rfl ?_
    refine RL.assign rfl rfl rfl ?_
    refine RL.nil ?_
    refine NX.seq ?_
    refine TR.block ?_
    refine TR.loopP (ι := SiX) (fun x => ver + 1 + (x.k : Int) ≤ h.v + 1 ∧ txs x.x ≤ 8192 * x.k ∧ x.x.length ≤ 64 ∧ sinceGo tf h.tx ((h.hist.drop (k + 1)).drop x.k) x.x = sinceGo tf h.tx (h.hist.drop (k + 1)) []) (fun x => [(0, .pointer (some ⟨b, 0, none⟩)), (7, S tf), (8, .slice x.oa x.x.length x.c), (9, I (ver + 1 + (x.k : Nat)))]) (fun x => RdB 101 9 26 39 b (d) :: M) (fun x => ArrF x.oa (edC x.x) :: F) (fun x => (h.v + 1 - ver - x.k).toNat) ⟨0, [], none, 0⟩ ⟨by show ver + 1 + ((0 : Nat) : Int) ≤ _; omega, Nat.zero_le _, Nat.zero_le _, rfl⟩ ⟨rfl, rfl, rfl, congrArg (fun z => some (I z)) (by show ver + 1 = ver + 1 + ((0 : Nat) : Int); omega), trivial⟩ (fun w hw => (hw.to 1 [0] 1 [0] rfl)) (fun x hx => ?_)
    refine TR.seq ?_
    refine TR.seq ?_
    refine TR.region ?_
    refine RL.move rfl rfl rfl ?_
    refine RL.move rfl rfl rfl ?_
    refine RL.call rfl rfl Try.call58 rfl (rversion_spec hr) (fun _ => ?_)
    refine RL.bin rfl rfl rfl BinV.leq rfl ?_
    refine RL.nil ?_
    refine NX.seq ?_
    refine TR.cond rfl (fun h2 => ?_) (fun h2 => ?_)
    · skip
      have hkv : ver + 1 + (x.k : Int) ≤ h.v := of_decide_eq_true h2
      have hm : k + 1 + x.k < d.rows.length := by omega
      have hrx := hr.row hm
      have hre := (hr.ok.txt _ (List.mem_of_getElem? hrx)).2
      have hre1 : (d.rows[k + 1 + x.k]).es.length ≤ 64 := hre.1
      have hre2 : txs (d.rows[k + 1 + x.k]).es ≤ 4096 := hre.2
      have hdk : (h.hist.drop (k + 1)).drop x.k = ((d.rows[k + 1 + x.k]).t, (d.rows[k + 1 + x.k]).es) :: (h.hist.drop (k + 1)).drop (x.k + 1) := by
        have hkl : x.k < (h.hist.drop (k + 1)).length := by rw [List.length_drop]; omega
        rw [List.drop_eq_getElem_cons hkl]
        congr 1
        have h9 : (h.hist.drop (k + 1))[x.k]? = some ((d.rows[k + 1 + x.k]).t, (d.rows[k + 1 + x.k]).es) := by rw [List.getElem?_drop, ← hrx]
        rw [List.getElem?_eq_getElem hkl] at h9
        exact Option.some.inj h9
      refine TR.skip ?_
      refine NX.seq ?_
      refine TR.seq ?_
      refine TR.block ?_
      refine TR.seq ?_
      refine TR.open (fun w hw => (St.exOpen (show St w (Ex _ :: _) _ from hw))) (fun ie => ?_)
      refine TR.openP (fun w hw => own_at (i := 2) rfl (ecC_ne hrl.2.1) hw) (fun ge hge => ?_)
      refine TR.weak (fun w hw => hw.derive (ψ := ArrF (d.rows[k + 1 + x.k]).oa (edC (d.rows[k + 1 + x.k]).es)) (fun K hf => (hf (RdF d) (.tail _ hD)).1 _ (List.getElem_mem hm))) ?_
      refine TR.sub (E' := [(0, _), (7, _), (8, _), (9, _), (31, _), (32, _), (33, _), (34, _)]) ⟨rfl, rfl, rfl, rfl, rfl, rfl, rfl, rfl, trivial⟩ ?_
      refine TR.draw mixed ?_
      apply AR.more [(0, _), (1, _), (2, _), (3, _), (4, _), (5, _), (6, _), (7, _), (8, _), (9, _), (10, _), (11, _), (12, _), (13, _)]
      refine AR.eff [0, 1, 2, 3, 4, 5, 6, 7, 8, 9, 10, 11, 12, 13] 14 [0, 1, 2, 3, 4, 5, 6, 7, 8, 9, 10, 11, 12, 13, 14, 15, 16, 17, 18, 19] ⟨QOne.yes rfl rfl rfl (PV.move rfl), QOne.yes rfl rfl rfl (PV.move rfl), QOne.yes rfl rfl rfl (PV.move rfl), QOne.yes rfl rfl rfl (PV.nilCheck rfl), QOne.yes rfl rfl rfl (PV.fieldAddr rg_tf101_2 rfl), QOne.yes rfl rfl rfl (PV.load1 0 rg_ts99 rfl rfl rfl), QOne.yes rfl rfl rfl (PV.move rfl), QOne.yes rfl rfl rfl (PV.move rfl), QOne.yes rfl rfl rfl (PV.nilCheck rfl), QOne.yes rfl rfl rfl (PV.fieldAddr rg_tf101_0 rfl), QOne.yes rfl rfl rfl (PV.load1 0 rg_ts3 rfl rfl rfl), QOne.yes rfl rfl rfl (PV.bin rfl rfl (BinV.sub ((k + 1 + x.k : Nat) : Int) (by omega) (by omega) (by omega))), QOne.yes rfl rfl rfl (PV.indexAddr rg_tl99 rg_tz26 (congrArg (fun a => some (Value.slice a _ _)) hge) rfl (by omega) (by omega)), QOne.yes rfl rfl rfl (PV.loadS rfl (own_one (i := 2) rfl hge rg_ts26 (ecC_at (i := ((k + 1 + x.k : Nat) : Int)) rfl hm))), trivial⟩ rfl rfl rfl rfl rfl rfl rfl (EV.call rfl Try.call63 (rcompose_spec (tx := tf) (a := x.x) (b := (d.rows[k + 1 + x.k]).es) (.tail _ (.head _)) (.head _) (by omega) (by omega) (by omega) (fun e => by have := apply_le (s := tf) (es := x.x) (q := 0) (soundE_sound1 e); omega) (fun e e2 => by have := apply_le (s := tf) (es := x.x) (q := 0) (soundE_sound1 e); have := apply_le (s := applyGo tf 0 x.x) (es := (d.rows[k + 1 + x.k]).es) (q := 0) (soundE_sound1 e2); omega))) (fun zc => ?_)
      refine AR.done [0, 1, 13, 12, 5, 11, 6, 10, 4, 3, 9, 8, 2, 7] rfl ?_
      apply AR.more [(15, _), (16, _), (17, _), (18, _), (19, _)]
      refine AR.last [15, 16, 17, 18, 19] [0, 1, 2, 3, 4, 5, 6, 7, 8, 9, 10, 11, 12, 13, 14, 15, 16, 17, 18, 19] ⟨QOne.yes rfl rfl rfl (PV.move rfl), QOne.yes rfl rfl rfl (PV.extract rfl rfl), QOne.yes rfl rfl rfl (PV.extract rfl rfl), QOne.yes rfl rfl rfl (PV.assign rfl), QOne.yes rfl rfl rfl (PV.assign rfl), trivial⟩ rfl rfl rfl ?_
      refine NX.sub (E' := [(0, _), (7, _), (8, _), (9, _), (10, _), (11, _), (31, _), (32, _), (33, _), (34, _), (37, _), (38, _), (39, _), (40, _), (41, _), (42, _), (43, _), (44, _), (45, _), (46, _), (47, _), (48, _), (49, _), (50, _), (51, _), (52, _), (53, _), (54, _)]) ⟨rfl, rfl, rfl, rfl, rfl, rfl, rfl, rfl, rfl, rfl, rfl, rfl, rfl, rfl, rfl, rfl, rfl, rfl, rfl, rfl, rfl, rfl, rfl, rfl, rfl, rfl, rfl, rfl, trivial⟩ ?_
      refine NX.seq ?_
      refine TR.seq ?_
      refine TR.seq ?_
      refine TR.weak (fun w hw => St.rdClose (d := d) rfl rfl rfl rfl rfl rfl rfl (show St w (_ :: _ :: _ :: _ :: _) _ from hw.toM 4 [0, 1, 2, 3] rfl)) ?_
      refine TR.region ?_
      refine RL.move rfl rfl rfl ?_
      refine RL.bin rfl rfl rfl BinV.neq rfl ?_
      refine RL.nil ?_
      refine NX.seq ?_
      refine TR.cond rfl (fun h3 => ?_) (fun h3 => ?_)
      · skip
        have hce : (composeE tf x.x (d.rows[k + 1 + x.k]).es).2 ≠ 0 := of_decide_eq_true h3
        refine TR.seq ?_
        refine TR.region ?_
        refine RL.move rfl rfl rfl ?_
        refine RL.move rfl rfl rfl ?_
        refine RL.call rfl rfl Try.call25 rfl (rtext_spec hr) (fun _ => ?_)
        refine RL.call rfl rfl Try.call64 rfl (rdiff_spec (a := tf) (b := h.tx) (by omega) (by omega)) (fun zd => ?_)
        refine RL.assign rfl rfl rfl ?_
        refine RL.assign rfl rfl rfl ?_
        refine RL.nil ?_
        refine NX.seq ?_
        refine TR.ret ?_
        refine NX.retThen ?_
        refine NX.retBlock ?_
        refine NX.retThen ?_
        refine NX.retThen ?_
        refine NX.retBlock ?_
        refine NX.retThen ?_
        have hsg : (sinceH h ver).1 = diffE tf h.tx := by rw [hsi, ← hx.2.2.2, hdk, sinceGo, if_pos hce]
        refine NX.ret2 zd rfl rfl rfl (by rw [hsg, hs0]) (fun w hw => ?_)
        rw [hsg]
        exact (hw.to 1 [0] 4 [0] rfl)
      · skip
        have hce : ¬ (composeE tf x.x (d.rows[k + 1 + x.k]).es).2 ≠ 0 := of_decide_eq_false h3
        have hct := composeE_txs (Decidable.not_not.1 hce)
        refine TR.skip ?_
        refine NX.seq ?_
        refine TR.region ?_
        refine RL.move rfl rfl rfl ?_
        refine RL.assign rfl rfl rfl ?_
        refine RL.nil ?_
        refine NX.off ?_
        refine NX.seq ?_
        refine TR.region ?_
        refine RL.move rfl rfl rfl ?_
        refine RL.bin rfl rfl rfl (BinV.add (ver + 1 + ((x.k + 1 : Nat) : Int)) (by omega) (by omega) (by omega)) rfl ?_
        refine RL.assign rfl rfl rfl ?_
        refine RL.nil ?_
        refine NX.roundP ⟨x.k + 1, (composeE tf x.x (d.rows[k + 1 + x.k]).es).1, zc.oa, zc.c⟩ ⟨by show ver + 1 + ((x.k + 1 : Nat) : Int) ≤ _; omega, by show txs (composeE tf x.x (d.rows[k + 1 + x.k]).es).1 ≤ 8192 * (x.k + 1); omega, hct.2, by rw [← hx.2.2.2, hdk, sinceGo, if_neg hce]⟩ (by show (h.v + 1 - ver - ((x.k + 1 : Nat) : Int)).toNat < _; omega) ⟨rfl, rfl, rfl, rfl, trivial⟩ (fun w hw => (hw.to 1 [0] 3 [0] rfl))
    · skip
      have hkv : ¬ ver + 1 + (x.k : Int) ≤ h.v := of_decide_eq_false h2
      refine TR.exit ?_
      refine NX.exitThen ?_
      refine NX.exitThen ?_
      refine NX.exitHere ?_
      refine NX.seq ?_
      refine TR.seq ?_
      refine TR.region ?_
      refine RL.move rfl rfl rfl ?_
      refine RL.assign rfl rfl rfl ?_
      refine RL.assign rfl rfl rfl ?_
      refine RL.nil ?_
      refine NX.seq ?_
      refine TR.ret ?_
      have hsg : (sinceH h ver).1 = x.x := by rw [hsi, ← hx.2.2.2, List.drop_of_length_le (by rw [List.length_drop]; omega)]; rfl
      refine NX.ret2 (⟨x.oa, x.c⟩ : RdX) rfl rfl rfl (by rw [hsg, hs0]) (fun w hw => ?_)
      rw [hsg]
      exact (hw.to 1 [0] 1 [0] rfl)
set_option maxHeartbeats 1000000 in
theorem redit_spec {l : List Ed} {oa : Option Addr} {ca : Nat} {b : Nat} {d : RD} {h : Hs} {M : List HP} {F : List Fact} (hr : RelR d h) (hD : RdF d ∈ F) (hl : ArrF oa (edC l) ∈ F) (hll : l.length ≤ 1099511627776) (hb : soundE h.tx.length l = 0 → (applyGo h.tx 0 l).length ≤ 140737488355328) : Ctr Try.prog 26 [.pointer (some ⟨b, 0, none⟩), .slice oa l.length ca] (RdB 101 9 26 39 b (d) :: M) F {q : RD // RelR q (editH h l).2} (fun _ => .tuple #[I (editH h l).1.1, I (editH h l).1.2]) (fun q => RdB 101 9 26 39 b (q.1) :: M) (fun q => RdF q.1 :: F) := by
  refine Ctr.body Try.func26 rfl rfl ?_
  refine TR.seq ?_
  refine TR.region ?_
  refine RL.assign rfl rfl rfl ?_
  refine RL.assign rfl rfl rfl ?_
  refine RL.nil ?_
  refine NX.seq ?_
  refine TR.seq ?_
  refine TR.seq ?_
  have hrl := hr.len
  have hv1x := hr.ok.v1
  refine TR.open (fun w hw => (St.exOpen (show St w (Ex _ :: _) _ from hw))) (fun ic => ?_)
  refine TR.region ?_
  refine RL.move rfl rfl rfl ?_
  refine RL.nilCheck rfl rfl rfl ?_
  refine RL.fieldAddr rfl rg_tf101_3 rfl rfl ?_
  refine RL.load1 0 rfl rg_ts23 rfl rfl rfl rfl ?_
  refine RL.lenSlice rfl rg_tl23 rfl rfl ?_
  refine RL.bin rfl rfl rfl BinV.gtr rfl ?_
  refine RL.nil ?_
  refine NX.seq ?_
  refine TR.cond rfl (fun h1 => ?_) (fun h1 => ?_)
  · skip
    have hh0 : 0 < h.held.length := by have := of_decide_eq_true h1; omega
    refine TR.seq ?_
    refine TR.region ?_
    refine RL.assign rfl rfl rfl ?_
    refine RL.assign rfl rfl rfl ?_
    refine RL.nil ?_
    refine NX.seq ?_
    refine TR.ret ?_
    refine NX.retThen ?_
    have hee : editH h l = ((0, 23), h) := if_pos hh0
    exact NX.ret2 (⟨d, by rw [hee]; exact hr⟩ : {q : RD // RelR q (editH h l).2}) rfl rfl rfl (by rw [hee]) (fun w hw => (show St w (RdB 101 9 26 39 b (d) :: M) F from St.rdClose (d := d) rfl rfl rfl rfl rfl rfl rfl (hw.to 4 [0, 1, 2, 3] 0 [] rfl)).derive (ψ := RdF d) (fun K hf => hf _ hD))
  · skip
    have hh0 : ¬ 0 < h.held.length := by have := of_decide_eq_false h1; omega
    refine TR.skip ?_
    refine NX.seq ?_
    refine TR.seq ?_
    refine TR.seq ?_
    refine TR.weak (fun w hw => St.rdClose (d := d) rfl rfl rfl rfl rfl rfl rfl (show St w (_ :: _ :: _ :: _ :: _) _ from hw.toM 4 [0, 1, 2, 3] rfl)) ?_
    refine TR.region ?_
    refine RL.move rfl rfl rfl ?_
    refine RL.call rfl rfl Try.call58 rfl (rversion_spec hr) (fun _ => ?_)
    refine RL.bin rfl rfl rfl BinV.eql rfl ?_
    refine RL.nil ?_
    refine NX.seq ?_
    refine TR.cond rfl (fun h2 => ?_) (fun h2 => ?_)
    · skip
      have hvm : h.v = 1099511627776 := of_decide_eq_true h2
      refine TR.seq ?_
      refine TR.region ?_
      refine RL.assign rfl rfl rfl ?_
      refine RL.assign rfl rfl rfl ?_
      refine RL.nil ?_
      refine NX.seq ?_
      refine TR.ret ?_
      refine NX.retThen ?_
      have hee : editH h l = ((0, 5), h) := (if_neg hh0).trans (if_pos hvm)
      exact NX.ret2 (⟨d, by rw [hee]; exact hr⟩ : {q : RD // RelR q (editH h l).2}) rfl rfl rfl (by rw [hee]) (fun w hw => (show St w (RdB 101 9 26 39 b (d) :: M) F from (hw.to 1 [0] 0 [] rfl)).derive (ψ := RdF d) (fun K hf => hf _ hD))
    · skip
      have hvm : ¬ h.v = 1099511627776 := of_decide_eq_false h2
      have hv : h.v < 1099511627776 := by omega
      refine TR.skip ?_
      refine NX.seq ?_
      refine TR.seq ?_
      refine TR.region ?_
      refine RL.move rfl rfl rfl ?_
      refine RL.move rfl rfl rfl ?_
      refine RL.call rfl rfl Try.call61 rfl (rbec_spec (l := l) hr hD hl hll hb hv) (fun q => ?_)
      refine RL.assign rfl rfl rfl ?_
      refine RL.nil ?_
      refine NX.seq ?_
      refine TR.seq ?_
      refine TR.seq ?_
      refine TR.region ?_
      refine RL.move rfl rfl rfl ?_
      refine RL.bin rfl rfl rfl BinV.neq rfl ?_
      refine RL.nil ?_
      refine NX.seq ?_
      refine TR.cond rfl (fun h3 => ?_) (fun h3 => ?_)
      · skip
        have hbe : (becH h l).1 ≠ 0 := of_decide_eq_true h3
        refine TR.seq ?_
        refine TR.region ?_
        refine RL.move rfl rfl rfl ?_
        refine RL.assign rfl rfl rfl ?_
        refine RL.assign rfl rfl rfl ?_
        refine RL.nil ?_
        refine NX.seq ?_
        refine TR.ret ?_
        refine NX.retThen ?_
        have hee : editH h l = ((0, (becH h l).1), h) := (if_neg hh0).trans ((if_neg hvm).trans (if_pos hbe))
        refine NX.ret2 (⟨q.1, by rw [hee]; exact q.2.of ((becH_ok (l := l) hr.ok hv).2.2 hbe)⟩ : {q : RD // RelR q (editH h l).2}) rfl rfl rfl (by rw [hee]) (fun w hw => (hw.to 1 [0] 1 [0] rfl))
      · skip
        have hbe : ¬ (becH h l).1 ≠ 0 := of_decide_eq_false h3
        refine TR.skip ?_
        refine NX.seq ?_
        refine TR.seq ?_
        refine TR.region ?_
        refine RL.move rfl rfl rfl ?_
        refine RL.call rfl rfl Try.call58 rfl (rversion_spec q.2) (fun _ => ?_)
        refine RL.assign rfl rfl rfl ?_
        refine RL.assign rfl rfl rfl ?_
        refine RL.nil ?_
        refine NX.seq ?_
        refine TR.ret ?_
        have hee : editH h l = (((becH h l).2.v, 0), (becH h l).2) := (if_neg hh0).trans ((if_neg hvm).trans (if_neg hbe))
        refine NX.ret2 (⟨q.1, by rw [hee]; exact q.2⟩ : {q : RD // RelR q (editH h l).2}) rfl rfl rfl (by rw [hee]) (fun w hw => (hw.to 1 [0] 1 [0] rfl))
end Go.Proofs.Ytkdeopioelocnaa

namespace Go.GL
set_option linter.unusedVariables false
theorem sound1_up {n : Int} {es : List Ed} {q t : Int} (h : sound1 n t es = 0) (hq : q ≤ t) : sound1 n q es = 0 := by
  cases es with
  | nil => rfl
  | cons e es =>
    obtain ⟨h1, h2, h3, h4, h5⟩ := sound1_cons h
    rw [sound1, if_neg (by omega), if_neg (by omega)]; exact h5
theorem apply_up {s : List UInt8} {es : List Ed} {q t : Nat} (h : sound1 s.length t es = 0) (hq : q ≤ t) (ht : t ≤ s.length) : applyGo s q es = (s.take t).drop q ++ applyGo s t es := by
  have sp : ∀ (a : Nat), t ≤ a → (s.take a).drop q = (s.take t).drop q ++ (s.take a).drop t := fun a ha => by
    have e : s.take a = s.take t ++ (s.take a).drop t := by
      conv => lhs; rw [← List.take_append_drop t (s.take a), List.take_take, Nat.min_eq_left ha]
    conv => lhs; rw [e]
    rw [List.drop_append_of_le_length (by rw [List.length_take]; omega)]
  cases es with
  | nil =>
    show s.drop q = (s.take t).drop q ++ s.drop t
    have := sp s.length ht
    rwa [List.take_length] at this
  | cons e es =>
    obtain ⟨h1, h2, h3, h4, h5⟩ := sound1_cons h
    rw [applyGo, applyGo, sp e.f.toNat (by omega), List.append_assoc]
theorem filter_sound {s : List UInt8} {p : Ed → Bool} : ∀ {es : List Ed} {q : Int}, sound1 s.length q es = 0 → sound1 s.length q (es.filter p) = 0
  | [], q, _ => rfl
  | e :: es, q, h => by
    obtain ⟨h1, h2, h3, h4, h5⟩ := sound1_cons h
    have ih := filter_sound (p := p) h5
    rw [List.filter_cons]
    split
    · rw [sound1, if_neg (by omega), if_neg (by omega)]; exact ih
    · exact sound1_up ih (by omega)
theorem filter_apply {s : List UInt8} : ∀ {es : List Ed} {q : Nat}, sound1 s.length q es = 0 → q ≤ s.length → applyGo s q (es.filter (flE s)) = applyGo s q es
  | [], q, _, _ => rfl
  | e :: es, q, h, hq => by
    obtain ⟨h1, h2, h3, h4, h5⟩ := sound1_cons h
    obtain ⟨t, ht⟩ : ∃ t : Nat, e.t = t := ⟨e.t.toNat, by omega⟩
    obtain ⟨f, hf⟩ : ∃ f : Nat, e.f = f := ⟨e.f.toNat, by omega⟩
    rw [ht] at h5
    have ih := filter_apply h5 (by omega)
    rw [List.filter_cons]
    split
    · rw [applyGo, applyGo, ht, Int.toNat_natCast, ih]
    · rename_i hn
      have hx : e.x = cutI s e.f e.t := by
        unfold flE at hn
        simpa using hn
      rw [apply_up (filter_sound h5) (by omega : q ≤ t) (by omega), ih, applyGo, hx, hf, ht]
      unfold cutI
      rw [Int.toNat_natCast, Int.toNat_natCast, ← List.append_assoc]
      congr 1
      have e1 : s.take f = (s.take t).take f := by rw [List.take_take, Nat.min_eq_left (by omega)]
      rw [e1]
      conv => lhs; rw [← List.take_append_drop f (s.take t)]
      rw [List.drop_append_of_le_length (by rw [List.length_take, List.length_take]; omega)]
def gapsR (s u : List UInt8) : Int → Int → List Pa → List Ed
  | o, n, [] => [⟨o, s.length, u.drop n.toNat⟩]
  | o, n, p :: ps => ⟨o, p.o, cutI u n p.n⟩ :: gapsR s u (p.o + p.s) (p.n + p.s) ps
theorem gaps_fold {s u : List UInt8} : ∀ (ps : List Pa) (acc : List Ed) (o n : Int), (ps.foldl (gapStep u) (acc, o, n)).1 ++ [⟨(ps.foldl (gapStep u) (acc, o, n)).2.1, s.length, u.drop (ps.foldl (gapStep u) (acc, o, n)).2.2.toNat⟩] = acc ++ gapsR s u o n ps
  | [], acc, o, n => rfl
  | p :: ps, acc, o, n => by
    rw [List.foldl_cons]
    have := gaps_fold (s := s) (u := u) ps (acc ++ [⟨o, p.o, cutI u n p.n⟩]) (p.o + p.s) (p.n + p.s)
    have e : gapStep u (acc, o, n) p = (acc ++ [⟨o, p.o, cutI u n p.n⟩], p.o + p.s, p.n + p.s) := rfl
    rw [e, this, List.append_assoc]; rfl
theorem gaps_join {s u : List UInt8} : ∀ (ps : List Pa) (acc : List Ed) (o n : Int), (∀ p, p ∈ ps → 0 < p.s) → Gd acc o → joinL (acc ++ gapsR s u o n ps) = acc ++ gapsR s u o n ps
  | [], acc, o, n, _, hg => hg.join rfl
  | p :: ps, acc, o, n, hs, hg => by
    have := gaps_join (s := s) (u := u) ps (acc ++ [⟨o, p.o, cutI u n p.n⟩]) (p.o + p.s) (p.n + p.s) (fun q hq => hs q (.tail _ hq)) (hg.snoc rfl (by have := hs p (.head _); show p.o < _; omega))
    rw [List.append_assoc] at this
    exact this
def PaEq (s u : List UInt8) (p : Pa) : Prop := (s.drop p.o.toNat).take p.s.toNat = (u.drop p.n.toNat).take p.s.toNat
theorem cut_split (l : List UInt8) {a b : Nat} (h : a ≤ b) : (l.take b).drop a = (l.drop a).take (b - a) := by rw [List.drop_take]
theorem gaps_apply {s u : List UInt8} : ∀ (ps : List Pa) (o n q : Nat), q ≤ o → o ≤ s.length → n ≤ u.length → (∀ p, p ∈ ps → PaIn s.length u.length p ∧ PaEq s u p) → ps.Pairwise Before → (∀ p, p ∈ ps → (o : Int) ≤ p.o ∧ (n : Int) ≤ p.n) →
    sound1 s.length q (gapsR s u o n ps) = 0 ∧ applyGo s q (gapsR s u o n ps) = (s.take o).drop q ++ u.drop n
  | [], o, n, q, hq, ho, hn, _, _, _ => by
    refine ⟨?_, ?_⟩
    · rw [gapsR, sound1, if_neg (by show ¬ ((o : Int) < 0 ∨ (s.length : Int) < o ∨ (s.length : Int) < s.length); omega), if_neg (by show ¬ (o : Int) < q; omega)]; rfl
    · show (s.take ((o : Int)).toNat).drop q ++ (u.drop ((n : Int)).toNat ++ s.drop ((s.length : Int)).toNat) = _
      rw [Int.toNat_natCast, Int.toNat_natCast, Int.toNat_natCast, List.drop_length, List.append_nil]
  | p :: ps, o, n, q, hq, ho, hn, hin, hpw, hlo => by
    obtain ⟨⟨p1, p2, p3, p4, p5⟩, p6⟩ := hin p (.head _)
    obtain ⟨p7, p8⟩ := hlo p (.head _)
    rw [List.pairwise_cons] at hpw
    obtain ⟨po, hpo⟩ : ∃ a : Nat, p.o = a := ⟨p.o.toNat, by omega⟩
    obtain ⟨pn, hpn⟩ : ∃ a : Nat, p.n = a := ⟨p.n.toNat, by omega⟩
    obtain ⟨pS, hps⟩ : ∃ a : Nat, p.s = a := ⟨p.s.toNat, by omega⟩
    unfold PaEq at p6
    rw [hpo, hpn, hps, Int.toNat_natCast, Int.toNat_natCast, Int.toNat_natCast] at p6
    obtain ⟨h1, h2⟩ := gaps_apply (s := s) (u := u) ps (po + pS) (pn + pS) po (by omega) (by omega) (by omega) (fun x hx => hin x (.tail _ hx)) hpw.2 (fun x hx => by obtain ⟨b1, b2⟩ := hpw.1 x hx; omega)
    have e1 : p.o + p.s = ((po + pS : Nat) : Int) := by omega
    have e2 : p.n + p.s = ((pn + pS : Nat) : Int) := by omega
    refine ⟨?_, ?_⟩
    · rw [gapsR, e1, e2, sound1, if_neg (by show ¬ ((o : Int) < 0 ∨ p.o < (o : Int) ∨ (s.length : Int) < p.o); omega), if_neg (by show ¬ (o : Int) < q; omega)]
      show sound1 s.length p.o _ = 0
      rw [hpo]; exact h1
    · rw [gapsR, e1, e2, applyGo]
      show (s.take ((o : Int)).toNat).drop q ++ (cutI u n p.n ++ applyGo s p.o.toNat (gapsR s u _ _ ps)) = _
      rw [hpo, hpn, Int.toNat_natCast, Int.toNat_natCast, h2, cut_nat]
      congr 1
      rw [cut_split s (by omega : po ≤ po + pS), show po + pS - po = pS from by omega, p6, ← List.append_assoc]
      have e3 : (u.drop n).take (pn - n) ++ (u.drop pn).take pS = (u.drop n).take (pn - n + pS) := by
        rw [List.take_add, List.drop_drop, show n + (pn - n) = pn from by omega]
      rw [e3]
      conv => rhs; rw [← List.take_append_drop (pn - n + pS) (u.drop n), List.drop_drop, show n + (pn - n + pS) = pn + pS from by omega]
theorem kept_eq {s t : List UInt8} : ∀ {es : List Ed} {q m : Nat}, q ≤ s.length → sound1 s.length q es = 0 → t.drop m = applyGo s q es → m ≤ t.length → ∀ p, p ∈ keptL s.length q ((m : Int) - q) es → PaEq s t p
  | [], q, m, hq, _, ht, hm, p, hp => by
    rw [keptL] at hp
    rw [List.mem_singleton.1 hp]
    unfold PaEq
    show (s.drop ((q : Int)).toNat).take ((s.length : Int) - q).toNat = (t.drop ((q : Int) + ((m : Int) - q)).toNat).take ((s.length : Int) - q).toNat
    rw [Int.toNat_natCast, show ((q : Int) + ((m : Int) - q)).toNat = m from by omega, ht]; rfl
  | e :: es, q, m, hq, hs, ht, hm, p, hp => by
    obtain ⟨g1, g2, g3, g4, g5⟩ := sound1_cons hs
    obtain ⟨f, hf⟩ : ∃ f : Nat, e.f = f := ⟨e.f.toNat, by omega⟩
    obtain ⟨t', ht'⟩ : ∃ t : Nat, e.t = t := ⟨e.t.toNat, by omega⟩
    rw [applyGo, hf, ht', Int.toNat_natCast, Int.toNat_natCast] at ht
    have hl1 : ((s.take f).drop q).length = f - q := by rw [List.length_drop, List.length_take]; omega
    have hlen := congrArg List.length ht
    rw [List.length_append, List.length_append, hl1, List.length_drop] at hlen
    have hu1 : t.drop (m + (f - q)) = e.x ++ applyGo s t' es := by rw [← List.drop_drop, ht, ← hl1, List.drop_left]
    have hu2 : t.drop (m + (f - q) + e.x.length) = applyGo s t' es := by rw [← List.drop_drop, hu1, List.drop_left]
    have hsh : (m : Int) - q + growE e = ((m + (f - q) + e.x.length : Nat) : Int) - (t' : Nat) := by unfold growE; omega
    rw [keptL, ht', hsh] at hp
    rcases List.mem_cons.1 hp with rfl | hp
    · unfold PaEq
      show (s.drop ((q : Int)).toNat).take (e.f - q).toNat = (t.drop ((q : Int) + ((m : Int) - q)).toNat).take (e.f - q).toNat
      rw [Int.toNat_natCast, show ((q : Int) + ((m : Int) - q)).toNat = m from by omega, ht, hf, show ((f : Int) - q).toNat = f - q from by omega, List.take_append_of_le_length (by rw [hl1]; omega), List.take_of_length_le (l := (s.take f).drop q) (by rw [hl1]; omega), cut_split s (by omega)]
    · exact kept_eq (by omega) (by rw [← ht']; exact g5) hu2 (by omega) p hp
theorem both_eq {s t u : List UInt8} {p q r : Pa} (h1 : PaEq s t p) (h2 : PaEq t u q) (hp : PaIn s.length t.length p) (hq : PaIn t.length u.length q) (h : pick2 p q = some r) : PaEq s u r := by
  obtain ⟨h3, rfl⟩ := pick2_some h
  obtain ⟨a1, a2, a3, a4, a5⟩ := hp
  obtain ⟨b1, b2, b3, b4, b5⟩ := hq
  obtain ⟨o, n, z⟩ := p
  obtain ⟨o', n', z'⟩ := q
  unfold PaEq at *
  dsimp only at *
  obtain ⟨o, rfl⟩ : ∃ x : Nat, o = x := ⟨o.toNat, by omega⟩
  obtain ⟨n, rfl⟩ : ∃ x : Nat, n = x := ⟨n.toNat, by omega⟩
  obtain ⟨z, rfl⟩ : ∃ x : Nat, z = x := ⟨z.toNat, by omega⟩
  obtain ⟨o', rfl⟩ : ∃ x : Nat, o' = x := ⟨o'.toNat, by omega⟩
  obtain ⟨n', rfl⟩ : ∃ x : Nat, n' = x := ⟨n'.toNat, by omega⟩
  obtain ⟨z', rfl⟩ : ∃ x : Nat, z' = x := ⟨z'.toNat, by omega⟩
  simp only [Int.toNat_natCast] at h1 h2
  obtain ⟨m, hm⟩ : ∃ m : Nat, max (n : Int) o' = m := ⟨(max (n : Int) o').toNat, by omega⟩
  obtain ⟨k, hk⟩ : ∃ k : Nat, min ((n : Int) + z) (o' + z') - max (n : Int) o' = k := ⟨(min ((n : Int) + z) (o' + z') - max (n : Int) o').toNat, by omega⟩
  rw [hk, hm, show ((o : Int) + m - n).toNat = o + (m - n) from by omega, show ((n' : Int) + m - o').toNat = n' + (m - o') from by omega, Int.toNat_natCast]
  have sub : ∀ (l l' : List UInt8) (a b z d k : Nat), (l.drop a).take z = (l'.drop b).take z → d + k ≤ z → (l.drop (a + d)).take k = (l'.drop (b + d)).take k := fun l l' a b z d k e hd => by
    have := congrArg (fun x : List UInt8 => (x.drop d).take k) e
    simp only [List.drop_take, List.take_take, List.drop_drop] at this
    rwa [Nat.min_eq_left (by omega)] at this
  have e1 := sub s t o n z (m - n) k h1 (by omega)
  have e2 := sub t u o' n' z' (m - o') k h2 (by omega)
  rw [show n + (m - n) = m from by omega] at e1
  rw [show o' + (m - o') = m from by omega] at e2
  rw [e1, e2]
theorem compose_does {s t u : List UInt8} {a b : List Ed} (h1 : sound1 s.length 0 a = 0) (ht : t = applyGo s 0 a) (h2 : sound1 t.length 0 b = 0) (hu : u = applyGo t 0 b) : sound1 s.length 0 (composeL s t u a b) = 0 ∧ applyGo s 0 (composeL s t u a b) = u := by
  obtain ⟨k1, k2, k3, k4⟩ := both_ok h1 ht h2 hu
  have e1 : ∀ p, p ∈ keptL s.length 0 0 a → PaEq s t p := fun p hp => kept_eq (q := 0) (m := 0) (Nat.zero_le _) h1 ht (Nat.zero_le _) p hp
  have e2 : ∀ p, p ∈ keptL t.length 0 0 b → PaEq t u p := fun p hp => kept_eq (q := 0) (m := 0) (Nat.zero_le _) h2 hu (Nat.zero_le _) p hp
  have e3 : ∀ r, r ∈ bothL (keptL s.length 0 0 a) (keptL t.length 0 0 b) → PaEq s u r := fun r hr => by
    obtain ⟨p, hp, hb⟩ := List.mem_flatMap.1 hr
    obtain ⟨q, hq, hk⟩ := bothIn_mem hb
    exact both_eq (e1 p hp) (e2 q hq) (k1 p hp) (k2 q hq) hk
  obtain ⟨g1, g2⟩ := gaps_apply (s := s) (u := u) _ 0 0 0 (Nat.le_refl _) (Nat.zero_le _) (Nat.zero_le _) (fun p hp => ⟨(k3 p hp).1, e3 p hp⟩) k4 (fun p hp => ⟨(k3 p hp).1.o0, (k3 p hp).1.n0⟩)
  have ef := gaps_fold (s := s) (u := u) (bothL (keptL s.length 0 0 a) (keptL t.length 0 0 b)) [] 0 0
  have ej := gaps_join (s := s) (u := u) (bothL (keptL s.length 0 0 a) (keptL t.length 0 0 b)) [] 0 0 (fun p hp => (k3 p hp).2) ⟨rfl, fun y hy => by cases hy⟩
  have ec : composeL s t u a b = (gapsR s u 0 0 (bothL (keptL s.length 0 0 a) (keptL t.length 0 0 b))).filter (flE s) := by
    unfold composeL normE gapSt
    rw [List.nil_append] at ef ej
    show (joinL _).filter _ = _
    rw [ef, ej]
  rw [ec]
  exact ⟨filter_sound g1, (filter_apply g1 (Nat.zero_le _)).trans (by rw [g2]; rfl)⟩
theorem composeE_does {s : List UInt8} {a b : List Ed} (h : (composeE s a b).2 = 0) (h1 : soundE s.length a = 0) (h2 : soundE (applyGo s 0 a).length b = 0) : soundE s.length (composeE s a b).1 = 0 ∧ applyGo s 0 (composeE s a b).1 = applyGo (applyGo s 0 a) 0 b := by
  unfold composeE at h ⊢
  rw [if_pos h1, if_pos h2] at h ⊢
  split at h
  · exact absurd (show (4 : Int) = 0 from h) (by decide)
  · rename_i h4
    rw [if_neg h4]
    obtain ⟨g1, g2⟩ := compose_does (soundE_sound1 h1) rfl (soundE_sound1 h2) rfl
    refine ⟨?_, g2⟩
    unfold soundE
    rw [if_neg h4]; exact g1
theorem lcp_ok : ∀ (a b : List UInt8), lcp a b ≤ a.length ∧ lcp a b ≤ b.length ∧ a.take (lcp a b) = b.take (lcp a b)
  | [], b => by cases b <;> exact ⟨Nat.zero_le _, Nat.zero_le _, rfl⟩
  | x :: a, [] => ⟨Nat.zero_le _, Nat.zero_le _, rfl⟩
  | x :: a, y :: b => by
    rw [lcp]
    split
    · rename_i e
      obtain ⟨h1, h2, h3⟩ := lcp_ok a b
      refine ⟨by rw [List.length_cons]; omega, by rw [List.length_cons]; omega, by rw [List.take_succ_cons, List.take_succ_cons, h3, e]⟩
    · exact ⟨Nat.zero_le _, Nat.zero_le _, rfl⟩
theorem diff_does (a b : List UInt8) : soundE a.length (diffE a b) = 0 ∧ applyGo a 0 (diffE a b) = b := by
  by_cases h : a = b
  · rw [diffE_same h]; subst h
    exact ⟨rfl, rfl⟩
  · obtain ⟨p, hp⟩ : ∃ p, lcp a b = p := ⟨_, rfl⟩
    obtain ⟨q, hq⟩ : ∃ q, lcp (a.drop p).reverse (b.drop p).reverse = q := ⟨_, rfl⟩
    rw [diffE_is h hp hq]
    obtain ⟨h1, h2, h3⟩ := lcp_ok a b
    obtain ⟨g1, g2, g3⟩ := lcp_ok (a.drop p).reverse (b.drop p).reverse
    rw [hp] at h1 h2 h3
    rw [hq, List.length_reverse, List.length_drop] at g1 g2
    rw [hq, rev_take (by omega), rev_take (by omega)] at g3
    have g3 := List.reverse_inj.1 g3
    refine ⟨?_, ?_⟩
    · unfold soundE
      rw [if_neg (by simp), sound1, if_neg (by show ¬ ((p : Int) < 0 ∨ ((a.length - q : Nat) : Int) < p ∨ (a.length : Int) < ((a.length - q : Nat) : Int)); omega), if_neg (by show ¬ (p : Int) < 0; omega)]; rfl
    · show (a.take ((p : Int)).toNat).drop 0 ++ ((b.take (b.length - q)).drop p ++ a.drop (((a.length - q : Nat) : Int)).toNat) = b
      rw [Int.toNat_natCast, Int.toNat_natCast, List.drop_zero, h3, g3, ← List.append_assoc]
      have e1 : b.take p ++ (b.take (b.length - q)).drop p = b.take (b.length - q) := by
        conv => rhs; rw [← List.take_append_drop p (b.take (b.length - q)), List.take_take, Nat.min_eq_left (by omega)]
      rw [e1, List.take_append_drop]
def HisL : List (List UInt8 × List Ed) → Prop
  | [] => True
  | [_] => True
  | a :: b :: r => (soundE a.1.length b.2 = 0 ∧ b.1 = applyGo a.1 0 b.2) ∧ HisL (b :: r)
theorem HisL.snoc : ∀ {l : List (List UInt8 × List Ed)} {a b : List UInt8 × List Ed}, HisL (l ++ [a]) → soundE a.1.length b.2 = 0 → b.1 = applyGo a.1 0 b.2 → HisL (l ++ [a] ++ [b])
  | [], a, b, _, h1, h2 => ⟨⟨h1, h2⟩, trivial⟩
  | [x], a, b, h, h1, h2 => ⟨h.1, ⟨h1, h2⟩, trivial⟩
  | x :: y :: l, a, b, h, h1, h2 => ⟨h.1, HisL.snoc (l := y :: l) h.2 h1 h2⟩
theorem becH_his {h : Hs} {l : List Ed} (hn : h.hist ≠ []) (hh : HisL h.hist) : HisL (becH h l).2.hist ∧ (becH h l).2.hist ≠ [] := by
  unfold becH
  split
  · exact ⟨hh, hn⟩
  · rename_i h1
    split
    · exact ⟨hh, hn⟩
    · refine ⟨?_, by simp⟩
      show HisL (h.hist ++ [_])
      have e : h.hist = h.hist.dropLast ++ [h.hist.getLast hn] := (List.dropLast_concat_getLast hn).symm
      have et : h.tx = (h.hist.getLast hn).1 := by unfold Hs.tx; rw [List.getLast?_eq_some_getLast hn]
      rw [e] at hh ⊢
      rw [et] at h1 ⊢
      exact HisL.snoc hh (Decidable.not_not.1 h1) rfl
theorem appH_his {h : Hs} {l : List PE} (hn : h.hist ≠ []) (hh : HisL h.hist) : HisL (appH h l).2.hist ∧ (appH h l).2.hist ≠ [] := by
  unfold appH
  split
  · exact ⟨hh, hn⟩
  · exact becH_his hn hh
theorem drainH_his : ∀ (m : Nat) {n : Int} {h : Hs}, h.held.length ≤ m → h.hist ≠ [] → HisL h.hist → HisL (drainH n h).2.hist
  | m, n, h, hm, hn, hh => by
    cases hg : hGet h.held (h.v + 1) with
    | none => rw [drainH_none hg]; exact hh
    | some l =>
      rw [drainH_some hg]
      have hdel := hDel_lt hg
      obtain ⟨g1, g2⟩ := appH_his (h := { h with held := hDel h.held (h.v + 1) }) (l := l) hn hh
      split
      · cases m with
        | zero => omega
        | succ m => exact drainH_his m (by rw [appH_held]; show (hDel h.held (h.v + 1)).length ≤ m; omega) g2 g1
      · exact hh
theorem recvH_his {h : Hs} {ver : Int} {l : List PE} (hn : h.hist ≠ []) (hh : HisL h.hist) : HisL (recvH h ver l).2.hist := by
  obtain ⟨g1, g2⟩ := appH_his (l := l) hn hh
  unfold recvH
  split
  · exact hh
  · split
    · exact hh
    · split
      · exact hh
      · split
        · split <;> exact hh
        · split
          · exact hh
          · exact drainH_his _ (Nat.le_refl _) g2 g1
theorem editH_his {h : Hs} {l : List Ed} (hn : h.hist ≠ []) (hh : HisL h.hist) : HisL (editH h l).2.hist := by
  obtain ⟨g1, _⟩ := becH_his (l := l) hn hh
  unfold editH
  split
  · exact hh
  · split
    · exact hh
    · split
      · exact hh
      · exact g1
theorem since_go {t last : List UInt8} : ∀ (ps : List (List UInt8 × List Ed)) (c x : List Ed) (cur : List UInt8), HisL ((cur, c) :: ps) → soundE t.length x = 0 → applyGo t 0 x = cur → (((cur, c) :: ps).getLast (by simp)).1 = last → soundE t.length (sinceGo t last ps x) = 0 ∧ applyGo t 0 (sinceGo t last ps x) = last
  | [], c, x, cur, _, h1, h2, h3 => ⟨h1, by rw [sinceGo, h2]; exact h3⟩
  | p :: ps, c, x, cur, hh, h1, h2, h3 => by
    rw [sinceGo]
    split
    · exact diff_does t last
    · rename_i hc
      obtain ⟨⟨a1, a2⟩, a3⟩ := hh
      have a1 : soundE cur.length p.2 = 0 := a1
      have a2 : p.1 = applyGo cur 0 p.2 := a2
      obtain ⟨b1, b2⟩ := composeE_does (Decidable.not_not.1 hc) h1 (by rw [h2]; exact a1)
      refine since_go ps p.2 _ p.1 a3 b1 (by rw [b2, h2, a2]) ?_
      rw [← h3]; rfl
theorem since_does {h : Hs} {ver : Int} (hn : h.hist ≠ []) (hh : HisL h.hist) (he : (sinceH h ver).2 = 0) (hver : h.first ≤ h.v + 1) : applyE (atH h ver).1 (sinceH h ver).1 = (h.tx, 0) := by
  unfold sinceH at he ⊢
  unfold atH
  cases hi : idxH h ver with
  | none => rw [hi] at he; exact absurd (show (7 : Int) = 0 from he) (by decide)
  | some i =>
    have hil : i < h.hist.length := by
      unfold idxH at hi
      split at hi
      · rename_i g
        have := Option.some.inj hi
        have hv : h.v = h.first + h.hist.length - 1 := rfl
        omega
      · cases hi
    have hsub : ∀ (l : List (List UInt8 × List Ed)) (k : Nat), HisL l → HisL (l.drop k) := by
      intro l
      induction l with
      | nil => intro k _; rw [List.drop_nil]; trivial
      | cons a l ih =>
        intro k hl
        cases k with
        | zero => exact hl
        | succ k =>
          cases l with
          | nil => simp [HisL]
          | cons b l => exact ih k hl.2
    have h1 := hsub _ i hh
    rw [List.drop_eq_getElem_cons hil] at h1
    have et : h.tx = (h.hist.getLast hn).1 := by unfold Hs.tx; rw [List.getLast?_eq_some_getLast hn]
    have eg : (h.hist.getD i ([], [])).1 = h.hist[i].1 := by rw [List.getD_eq_getElem?_getD, List.getElem?_eq_getElem hil]; rfl
    obtain ⟨g1, g2⟩ := since_go (t := h.hist[i].1) (last := h.tx) (h.hist.drop (i + 1)) h.hist[i].2 [] h.hist[i].1 h1 rfl rfl (by
      rw [et]
      have : (h.hist[i] :: h.hist.drop (i + 1)).getLast (List.cons_ne_nil _ _) = h.hist.getLast hn := by
        have e := List.drop_eq_getElem_cons hil
        have e2 : (h.hist.drop i).getLast (by rw [e]; exact List.cons_ne_nil _ _) = h.hist.getLast hn := List.getLast_drop _
        rw [← e2]
        congr 1
        exact e.symm
      rw [← this])
    show applyE (h.hist.getD i ([], [])).1 (sinceGo (h.hist.getD i ([], [])).1 h.tx (h.hist.drop (i + 1)) []) = _
    rw [eg]
    unfold applyE
    rw [if_pos g1, g2]
structure DrX where
  k : Nat
  d : Dp
  r : RD
  h : Hs
end Go.GL

namespace Go.Proofs.Ytkdeopioelocnaa
open Go.GL
set_option linter.unusedVariables false
theorem rh_ta39 : tyAgg Try.prog 39 2 = true := by kernel_rfl
theorem rh_tl23 : tySlice Try.prog 23 39 = true := by kernel_rfl
theorem rh_tp31 : tyPtr Try.prog 31 84 = true := by kernel_rfl
theorem rh_tz39 : tySize Try.prog 39 2 = true := by kernel_rfl
set_option maxHeartbeats 2000000 in
theorem law_remembers {xs ms : List Int} {around : Int} {oa om : Option Addr} {ca cm : Nat} {M : List HP} {F : List Fact} (hx : ArrF oa (ints xs) ∈ F) (hm : ArrF om (ints ms) ∈ F) (hc : xs.length ≤ ca) (hxs : IntsOk xs) (hms : IntsOk ms) (har : I64 around) : Ctr Try.prog 4 [.slice oa xs.length ca, .slice om ms.length cm, I around] M F Unit (fun _ => .bool true) (fun _ => M) (fun _ => F) := by
  refine Ctr.body Try.func4 rfl rfl ?_
  refine TR.seq ?_
  refine TR.region ?_
  refine RL.assign rfl rfl rfl ?_
  refine RL.nil ?_
  refine NX.seq ?_
  refine TR.seq ?_
  refine TR.region ?_
  refine RL.move rfl rfl rfl ?_
  refine RL.call rfl rfl Try.call10 rfl (chain_spec (xs := xs) (most := 8) hx hc hxs (by decide)) (fun zc => ?_)
  refine RL.move rfl rfl rfl ?_
  refine RL.extract rfl rfl rfl rfl ?_
  refine RL.extract rfl rfl rfl rfl ?_
  refine RL.assign rfl rfl rfl ?_
  refine RL.assign rfl rfl rfl ?_
  refine RL.nil ?_
  refine NX.seq ?_
  refine TR.seq ?_
  refine TR.region ?_
  refine RL.move rfl rfl rfl ?_
  refine RL.call rfl rfl Try.call13 rfl (new_spec (tx := zc.1.t) (ver := 0) (by have := zc.2.1; omega) (by decide) (by decide)) (fun qd => ?_)
  refine RL.move rfl rfl rfl ?_
  refine RL.extract rfl rfl rfl rfl ?_
  refine RL.extract rfl rfl rfl rfl ?_
  refine RL.assign rfl rfl rfl ?_
  refine RL.assign rfl rfl rfl ?_
  refine RL.nil ?_
  refine NX.seq ?_
  refine TR.seq ?_
  refine TR.region ?_
  refine RL.move rfl rfl rfl ?_
  refine RL.call rfl rfl Try.call22 rfl (rnew_spec (tx := zc.1.t) (ver := 0) (by have := zc.2.1; omega) (by decide) (by decide)) (fun qr => ?_)
  refine RL.move rfl rfl rfl ?_
  refine RL.extract rfl rfl rfl rfl ?_
  refine RL.extract rfl rfl rfl rfl ?_
  refine RL.assign rfl rfl rfl ?_
  refine RL.assign rfl rfl rfl ?_
  refine RL.nil ?_
  refine NX.seq ?_
  refine TR.seq ?_
  refine TR.seq ?_
  refine TR.region ?_
  refine RL.move rfl rfl rfl ?_
  refine RL.bin rfl rfl rfl (BinV.to (d := false) BinV.neq (decide_eq_false (by simp))) rfl ?_
  refine RL.move rfl rfl rfl ?_
  refine RL.move rfl rfl rfl ?_
  refine RL.bin rfl rfl rfl (BinV.eqlPtrNil rh_tp31) rfl ?_
  refine RL.pickF rfl rfl rfl rfl ?_
  refine RL.nil ?_
  refine NX.seq ?_
  refine TR.condF rfl ?_
  refine TR.skip ?_
  refine NX.seq ?_
  refine TR.seq ?_
  refine TR.seq ?_
  have hr8 := zc.2.2.1
  have hok : ∀ r, r ∈ zc.1.rows → HeOk r := fun r hr => (ChOk.hs zc.2.2.2 (by omega) r hr).ok
  refine TR.region ?_
  refine RL.assign rfl rfl rfl ?_
  refine RL.nil ?_
  refine NX.seq ?_
  refine TR.block ?_
  refine TR.loopP (ι := DrX) (fun x => x.k ≤ zc.1.rows.length ∧ RelD x.d x.h ∧ RelR x.r x.h ∧ HisL x.h.hist) (fun x => [(1, .slice om ms.length cm), (2, I around), (8, .slice zc.1.oa zc.1.rows.length zc.1.c), (9, .pointer (some ⟨qd.1.1, 0, none⟩)), (11, .pointer (some ⟨qr.1.1, 0, none⟩)), (13, I (x.k : Nat))]) (fun x => DocB 84 80 qd.1.1 (x.d) :: RdB 101 9 26 39 qr.1.1 (x.r) :: M) (fun x => DocF x.d :: RdF x.r :: ArrF zc.1.oa (heC zc.1.rows) :: HeF zc.1.rows :: F) (fun x => zc.1.rows.length - x.k) ⟨0, qd.1.2, qr.1.2, (⟨0, [(zc.1.t, [])], []⟩ : Hs)⟩ ⟨Nat.zero_le _, qd.2, qr.2, trivial⟩ ⟨rfl, rfl, rfl, rfl, rfl, rfl, trivial⟩ (fun w hw => (hw.to 2 [1, 0] 4 [1, 0, 2, 3] rfl)) (fun x hx1 => ?_)
  refine TR.seq ?_
  refine TR.seq ?_
  refine TR.region ?_
  refine RL.move rfl rfl rfl ?_
  refine RL.move rfl rfl rfl ?_
  refine RL.lenSlice rfl rh_tl23 rfl rfl ?_
  refine RL.bin rfl rfl rfl BinV.lss rfl ?_
  refine RL.nil ?_
  refine NX.seq ?_
  refine TR.cond rfl (fun h1 => ?_) (fun h1 => ?_)
  · skip
    have hk : x.k < zc.1.rows.length := by have := of_decide_eq_true h1; omega
    refine TR.openP (open_arr (oa := zc.1.oa) (xs := heC zc.1.rows) (.tail _ (.tail _ (.head _))) (heC_ne (by omega))) (fun pr hpr => ?_)
    refine TR.weak (fun w hw => hw.derive (ψ := ArrF (zc.1.rows[x.k]).oa (peC (zc.1.rows[x.k]).l)) (fun K hf => hf (HeF zc.1.rows) (.tail _ (.tail _ (.tail _ (.tail _ (.head _))))) _ (List.getElem_mem hk))) ?_
    refine TR.skip ?_
    refine NX.seq ?_
    refine TR.seq ?_
    refine TR.block ?_
    refine TR.seq ?_
    refine TR.region ?_
    refine RL.move rfl rfl rfl ?_
    refine RL.move rfl rfl rfl ?_
    refine RL.move rfl rfl rfl ?_
    refine RL.indexAddr rfl rh_tl23 rh_tz39 (congrArg (fun a => some (Value.slice a _ _)) hpr) rfl (by omega) (by omega) rfl ?_
    refine RL.loadF rfl rfl (fun w K hF => run_he (hF (CellsF pr.1 pr.2 (heC zc.1.rows)) (.tail _ (.head _))) rh_ta39 hk) rfl ?_
    refine RL.call rfl rfl Try.call15 rfl (recv_spec (b := qd.1.1) (d := x.d) (h := x.h) (ver := (zc.1.rows[x.k]).k) (l := (zc.1.rows[x.k]).l) hx1.2.1 (.tail _ (.tail _ (.head _))) (.head _) (by have := (hok _ (List.getElem_mem hk)).1; omega) (by have := (hok _ (List.getElem_mem hk)).2.1; omega) (hok _ (List.getElem_mem hk)).2.2) (fun q1 => ?_)
    refine RL.nil ?_
    refine NX.seq ?_
    refine TR.region ?_
    refine RL.move rfl rfl rfl ?_
    refine RL.move rfl rfl rfl ?_
    refine RL.move rfl rfl rfl ?_
    refine RL.indexAddr rfl rh_tl23 rh_tz39 (congrArg (fun a => some (Value.slice a _ _)) hpr) rfl (by omega) (by omega) rfl ?_
    refine RL.loadF rfl rfl (fun w K hF => run_he (hF (CellsF pr.1 pr.2 (heC zc.1.rows)) (.tail _ (.tail _ (.head _)))) rh_ta39 hk) rfl ?_
    refine RL.call rfl rfl Try.call23 rfl (Ctr.pick 2 [1, 0] rfl (rrecv_spec (b := qr.1.1) (d := x.r) (h := x.h) (ver := (zc.1.rows[x.k]).k) (l := (zc.1.rows[x.k]).l) hx1.2.2.1 (.tail _ (.tail _ (.tail _ (.tail _ (.head _))))) (.tail _ (.head _)) (by have := (hok _ (List.getElem_mem hk)).1; omega) (by have := (hok _ (List.getElem_mem hk)).2.1; omega) (hok _ (List.getElem_mem hk)).2.2)) (fun q2 => ?_)
    refine RL.nil ?_
    refine NX.off ?_
    refine NX.seq ?_
    refine TR.region ?_
    refine RL.move rfl rfl rfl ?_
    refine RL.bin rfl rfl rfl (BinV.add _ rfl (by omega) (by omega)) rfl ?_
    refine RL.assign rfl rfl rfl ?_
    refine RL.nil ?_
    refine NX.roundP ⟨x.k + 1, q1.1, q2.1, (recvH x.h zc.1.rows[x.k].k zc.1.rows[x.k].l).2⟩ ⟨by show x.k + 1 ≤ _; omega, q1.2, q2.2, recvH_his hx1.2.1.ok.ne hx1.2.2.2⟩ (by show _ - (x.k + 1) < _; omega) ⟨rfl, rfl, rfl, rfl, rfl, rfl, trivial⟩ (fun w hw => (hw.to 2 [1, 0] 8 [1, 0, 6, 7] rfl))
  · skip
    refine TR.exit ?_
    refine NX.exitThen ?_
    refine NX.exitThen ?_
    refine NX.exitHere ?_
    refine NX.seq ?_
    refine TR.seq ?_
    refine TR.seq ?_
    refine TR.region ?_
    refine RL.assign rfl rfl rfl ?_
    refine RL.nil ?_
    refine NX.seq ?_
    refine TR.block ?_
    refine TR.loopP (ι := DrX) (fun y => y.k ≤ 16 ∧ RelD y.d y.h ∧ RelR y.r y.h ∧ HisL y.h.hist) (fun y => [(1, .slice om ms.length cm), (2, I around), (9, .pointer (some ⟨qd.1.1, 0, none⟩)), (11, .pointer (some ⟨qr.1.1, 0, none⟩)), (14, I (y.k : Nat))]) (fun y => DocB 84 80 qd.1.1 (y.d) :: RdB 101 9 26 39 qr.1.1 (y.r) :: M) (fun y => DocF y.d :: RdF y.r :: F) (fun y => 16 - y.k) ⟨0, x.d, x.r, x.h⟩ ⟨Nat.zero_le _, hx1.2⟩ ⟨rfl, rfl, rfl, rfl, rfl, trivial⟩ (fun w hw => (hw.to 2 [0, 1] 4 [0, 1] rfl)) (fun y hy => ?_)
    refine TR.seq ?_
    refine TR.seq ?_
    refine TR.region ?_
    refine RL.move rfl rfl rfl ?_
    refine RL.move rfl rfl rfl ?_
    refine RL.call rfl rfl Try.call24 rfl (pick_spec (m := 16) (.tail _ (.tail _ hm)) hms (by decide)) (fun rp => ?_)
    refine RL.bin rfl rfl rfl BinV.lss rfl ?_
    refine RL.nil ?_
    refine NX.seq ?_
    refine TR.cond rfl (fun h2 => ?_) (fun h2 => ?_)
    · skip
      have hp1 := of_decide_eq_true h2
      have hp2 := rp.2
      have htx := hy.2.1.ok.tx
      refine TR.skip ?_
      refine NX.seq ?_
      refine TR.seq ?_
      refine TR.block ?_
      refine TR.seq ?_
      refine TR.region ?_
      refine RL.move rfl rfl rfl ?_
      refine RL.call rfl rfl Try.call25 rfl (Ctr.pick 2 [1, 0] rfl (rtext_spec (b := qr.1.1) (d := y.r) (h := y.h) hy.2.2.1)) (fun _ => ?_)
      refine RL.move rfl rfl rfl ?_
      refine RL.call rfl rfl Try.call11 rfl (gEdits_spec (tx := y.h.tx) (xs := ms) (.tail _ (.tail _ hm)) hms (by omega)) (fun ze => ?_)
      refine RL.assign rfl rfl rfl ?_
      refine RL.nil ?_
      refine NX.seq ?_
      refine TR.seq ?_
      refine TR.region ?_
      refine RL.move rfl rfl rfl ?_
      refine RL.move rfl rfl rfl ?_
      refine RL.call rfl rfl Try.call16 rfl (Ctr.pick 2 [1, 0] rfl (dedit_spec (b := qd.1.1) (d := y.d) (h := y.h) (l := ze.1.es) hy.2.1 (.tail _ (.head _)) (.head _) (by have := ze.2.1; omega) (fun e => by have := ze.2.len; omega))) (fun q3 => ?_)
      refine RL.nil ?_
      refine NX.seq ?_
      refine TR.region ?_
      refine RL.move rfl rfl rfl ?_
      refine RL.move rfl rfl rfl ?_
      refine RL.call rfl rfl Try.call26 rfl (Ctr.pick 2 [1, 0] rfl (redit_spec (b := qr.1.1) (d := y.r) (h := y.h) (l := ze.1.es) hy.2.2.1 (.tail _ (.tail _ (.tail _ (.head _)))) (.tail _ (.head _)) (by have := ze.2.1; omega) (fun e => by have := ze.2.len; omega))) (fun q4 => ?_)
      refine RL.nil ?_
      refine NX.off ?_
      refine NX.seq ?_
      refine TR.region ?_
      refine RL.move rfl rfl rfl ?_
      refine RL.bin rfl rfl rfl (BinV.add _ rfl (by omega) (by omega)) rfl ?_
      refine RL.assign rfl rfl rfl ?_
      refine RL.nil ?_
      refine NX.roundP ⟨y.k + 1, q3.1, q4.1, (editH y.h ze.1.es).2⟩ ⟨by show y.k + 1 ≤ 16; omega, q3.2, q4.2, editH_his hy.2.1.ok.ne hy.2.2.2⟩ (by show 16 - (y.k + 1) < _; omega) ⟨rfl, rfl, rfl, rfl, rfl, trivial⟩ (fun w hw => (hw.to 2 [1, 0] 5 [1, 0] rfl))
    · skip
      refine TR.exit ?_
      refine NX.exitThen ?_
      refine NX.exitThen ?_
      refine NX.exitHere ?_
      refine NX.seq ?_
      refine TR.seq ?_
      refine TR.seq ?_
      refine TR.region ?_
      refine RL.assign rfl rfl rfl ?_
      refine RL.nil ?_
      refine NX.seq ?_
      refine TR.block ?_
      refine TR.loopP (ι := Int) (fun v => -2 ≤ v ∧ v ≤ 26) (fun v => [(2, I around), (9, .pointer (some ⟨qd.1.1, 0, none⟩)), (11, .pointer (some ⟨qr.1.1, 0, none⟩)), (16, I v)]) (fun v => DocB 84 80 qd.1.1 (y.d) :: RdB 101 9 26 39 qr.1.1 (y.r) :: M) (fun v => DocF y.d :: RdF y.r :: F) (fun v => (26 - v).toNat) (-2) ⟨by decide, by decide⟩ ⟨rfl, rfl, rfl, rfl, trivial⟩ (fun w hw => (hw.to 2 [0, 1] 2 [0, 1] rfl)) (fun v hv => ?_)
      refine TR.seq ?_
      refine TR.seq ?_
      refine TR.region ?_
      refine RL.move rfl rfl rfl ?_
      refine RL.bin rfl rfl rfl BinV.lss rfl ?_
      refine RL.nil ?_
      refine NX.seq ?_
      refine TR.cond rfl (fun h3 => ?_) (fun h3 => ?_)
      · skip
        have hv26 : v < 26 := of_decide_eq_true h3
        refine TR.skip ?_
        refine NX.seq ?_
        refine TR.seq ?_
        refine TR.block ?_
        refine TR.seq ?_
        refine TR.region ?_
        refine RL.move rfl rfl rfl ?_
        refine RL.move rfl rfl rfl ?_
        refine RL.call rfl rfl Try.call27 rfl (at_spec (b := qd.1.1) (d := y.d) (h := y.h) (ver := v) hy.2.1 ⟨by omega, by omega⟩) (fun _ => ?_)
        refine RL.move rfl rfl rfl ?_
        refine RL.extract rfl rfl rfl rfl ?_
        refine RL.extract rfl rfl rfl rfl ?_
        refine RL.assign rfl rfl rfl ?_
        refine RL.assign rfl rfl rfl ?_
        refine RL.nil ?_
        refine NX.seq ?_
        refine TR.seq ?_
        refine TR.region ?_
        refine RL.move rfl rfl rfl ?_
        refine RL.move rfl rfl rfl ?_
        refine RL.call rfl rfl Try.call28 rfl (Ctr.pick 2 [1, 0] rfl (rat_spec (b := qr.1.1) (d := y.r) (h := y.h) (ver := v) hy.2.2.1 ⟨by omega, by omega⟩)) (fun _ => ?_)
        refine RL.move rfl rfl rfl ?_
        refine RL.extract rfl rfl rfl rfl ?_
        refine RL.extract rfl rfl rfl rfl ?_
        refine RL.assign rfl rfl rfl ?_
        refine RL.assign rfl rfl rfl ?_
        refine RL.nil ?_
        refine NX.seq ?_
        refine TR.seq ?_
        refine TR.region ?_
        refine RL.move rfl rfl rfl ?_
        refine RL.move rfl rfl rfl ?_
        refine RL.call rfl rfl Try.call18 rfl (Ctr.pick 2 [1, 0] rfl (since_spec (b := qd.1.1) (d := y.d) (h := y.h) (ver := v) hy.2.1 (.head _) ⟨by omega, by omega⟩)) (fun z1 => ?_)
        refine RL.move rfl rfl rfl ?_
        refine RL.extract rfl rfl rfl rfl ?_
        refine RL.extract rfl rfl rfl rfl ?_
        refine RL.assign rfl rfl rfl ?_
        refine RL.assign rfl rfl rfl ?_
        refine RL.nil ?_
        refine NX.seq ?_
        refine TR.seq ?_
        refine TR.region ?_
        refine RL.move rfl rfl rfl ?_
        refine RL.move rfl rfl rfl ?_
        refine RL.call rfl rfl Try.call29 rfl (Ctr.pick 2 [1, 0] rfl (rsince_spec (b := qr.1.1) (d := y.r) (h := y.h) (ver := v) hy.2.2.1 (.tail _ (.tail _ (.head _))) ⟨by omega, by omega⟩)) (fun z2 => ?_)
        refine RL.move rfl rfl rfl ?_
        refine RL.extract rfl rfl rfl rfl ?_
        refine RL.extract rfl rfl rfl rfl ?_
        refine RL.assign rfl rfl rfl ?_
        refine RL.assign rfl rfl rfl ?_
        refine RL.nil ?_
        refine NX.seq ?_
        refine TR.seq ?_
        refine TR.seq ?_
        refine TR.region ?_
        refine RL.move rfl rfl rfl ?_
        refine RL.move rfl rfl rfl ?_
        refine RL.bin rfl rfl rfl (BinV.to (d := false) BinV.neqS (decide_eq_false (by simp))) rfl ?_
        refine RL.move rfl rfl rfl ?_
        refine RL.move rfl rfl rfl ?_
        refine RL.move rfl rfl rfl ?_
        refine RL.bin rfl rfl rfl (BinV.to (d := false) BinV.neq (decide_eq_false (by simp))) rfl ?_
        refine RL.pickF rfl rfl rfl rfl ?_
        refine RL.move rfl rfl rfl ?_
        refine RL.move rfl rfl rfl ?_
        refine RL.move rfl rfl rfl ?_
        refine RL.bin rfl rfl rfl (BinV.to (d := false) BinV.neq (decide_eq_false (by simp))) rfl ?_
        refine RL.pickF rfl rfl rfl rfl ?_
        refine RL.move rfl rfl rfl ?_
        refine RL.move rfl rfl rfl ?_
        refine RL.move rfl rfl rfl ?_
        refine RL.call rfl rfl Try.call21 rfl (Ctr.boolT (decide_eq_true rfl) (same_spec (xs := (sinceH y.h v).1) (ys := (sinceH y.h v).1) (.tail _ (.head _)) (.head _) (Nat.le_trans (sinceH_len _ v) (by decide)))) (fun _ => ?_)
        refine RL.not rfl rfl rfl ?_
        refine RL.pickF rfl rfl rfl rfl ?_
        refine RL.nil ?_
        refine NX.seq ?_
        refine TR.condF rfl ?_
        refine TR.skip ?_
        refine NX.seq ?_
        refine TR.seq ?_
        refine TR.region ?_
        refine RL.move rfl rfl rfl ?_
        refine RL.bin rfl rfl rfl BinV.eql rfl ?_
        refine RL.nil ?_
        refine NX.seq ?_
        refine TR.cond rfl (fun h4 => ?_) (fun h4 => ?_)
        · skip
          have hs0 : (sinceH y.h v).2 = 0 := of_decide_eq_true h4
          have hsd := since_does hy.2.1.ok.ne hy.2.2.2 hs0 (by have := List.length_pos_iff.2 hy.2.1.ok.ne; unfold Hs.v; omega)
          have hab : soundE (atH y.h v).1.length (sinceH y.h v).1 = 0 → (applyGo (atH y.h v).1 0 (sinceH y.h v).1).length ≤ 140737488355328 := fun e => by
            have h9 := congrArg Prod.fst hsd
            unfold applyE at h9
            rw [if_pos e] at h9
            have h8 : applyGo (atH y.h v).1 0 (sinceH y.h v).1 = y.h.tx := h9
            rw [h8]; have := hy.2.1.ok.tx; omega
          refine TR.seq ?_
          refine TR.region ?_
          refine RL.move rfl rfl rfl ?_
          refine RL.move rfl rfl rfl ?_
          refine RL.call rfl rfl Try.call30 rfl (apply_spec (s := (atH y.h v).1) (es := (sinceH y.h v).1) (.tail _ (.head _)) (Nat.le_trans (sinceH_len _ v) (by decide)) hab) (fun _ => ?_)
          refine RL.move rfl rfl rfl ?_
          refine RL.extract rfl rfl rfl rfl ?_
          refine RL.extract rfl rfl rfl rfl ?_
          refine RL.assign rfl rfl rfl ?_
          refine RL.assign rfl rfl rfl ?_
          refine RL.nil ?_
          refine NX.seq ?_
          refine TR.seq ?_
          refine TR.region ?_
          refine RL.move rfl rfl rfl ?_
          refine RL.bin rfl rfl rfl (BinV.to (d := false) BinV.neq (decide_eq_false (by rw [hsd]; simp))) rfl ?_
          refine RL.move rfl rfl rfl ?_
          refine RL.move rfl rfl rfl ?_
          refine RL.move rfl rfl rfl ?_
          refine RL.call rfl rfl Try.call20 rfl (Ctr.pick 2 [1, 0] rfl (dtext_spec (b := qd.1.1) (d := y.d) (h := y.h) hy.2.1)) (fun _ => ?_)
          refine RL.bin rfl rfl rfl (BinV.to (d := false) BinV.neqS (decide_eq_false (by rw [hsd]; simp))) rfl ?_
          refine RL.pickF rfl rfl rfl rfl ?_
          refine RL.nil ?_
          refine NX.seq ?_
          refine TR.condF rfl ?_
          refine TR.skip ?_
          refine NX.off ?_
          refine NX.seq ?_
          refine TR.region ?_
          refine RL.move rfl rfl rfl ?_
          refine RL.bin rfl rfl rfl (BinV.add _ rfl (by omega) (by omega)) rfl ?_
          refine RL.assign rfl rfl rfl ?_
          refine RL.nil ?_
          refine NX.roundP (v + 1) ⟨by omega, by omega⟩ (by omega) ⟨rfl, rfl, rfl, rfl, trivial⟩ (fun w hw => (hw.to 2 [0, 1] 4 [2, 3] rfl))
        · skip
          refine TR.skip ?_
          refine NX.off ?_
          refine NX.seq ?_
          refine TR.region ?_
          refine RL.move rfl rfl rfl ?_
          refine RL.bin rfl rfl rfl (BinV.add _ rfl (by omega) (by omega)) rfl ?_
          refine RL.assign rfl rfl rfl ?_
          refine RL.nil ?_
          refine NX.roundP (v + 1) ⟨by omega, by omega⟩ (by omega) ⟨rfl, rfl, rfl, rfl, trivial⟩ (fun w hw => (hw.to 2 [1, 0] 4 [2, 3] rfl))
      · skip
        refine TR.exit ?_
        refine NX.exitThen ?_
        refine NX.exitThen ?_
        refine NX.exitHere ?_
        refine NX.seq ?_
        refine TR.seq ?_
        refine TR.region ?_
        refine RL.move rfl rfl rfl ?_
        refine RL.move rfl rfl rfl ?_
        refine RL.call rfl rfl Try.call27 rfl (at_spec (b := qd.1.1) (d := y.d) (h := y.h) (ver := around) hy.2.1 har) (fun _ => ?_)
        refine RL.move rfl rfl rfl ?_
        refine RL.extract rfl rfl rfl rfl ?_
        refine RL.extract rfl rfl rfl rfl ?_
        refine RL.assign rfl rfl rfl ?_
        refine RL.assign rfl rfl rfl ?_
        refine RL.nil ?_
        refine NX.seq ?_
        refine TR.seq ?_
        refine TR.region ?_
        refine RL.move rfl rfl rfl ?_
        refine RL.move rfl rfl rfl ?_
        refine RL.call rfl rfl Try.call28 rfl (Ctr.pick 2 [1, 0] rfl (rat_spec (b := qr.1.1) (d := y.r) (h := y.h) (ver := around) hy.2.2.1 har)) (fun _ => ?_)
        refine RL.move rfl rfl rfl ?_
        refine RL.extract rfl rfl rfl rfl ?_
        refine RL.extract rfl rfl rfl rfl ?_
        refine RL.assign rfl rfl rfl ?_
        refine RL.assign rfl rfl rfl ?_
        refine RL.nil ?_
        refine NX.seq ?_
        refine TR.seq ?_
        refine TR.region ?_
        refine RL.move rfl rfl rfl ?_
        refine RL.move rfl rfl rfl ?_
        refine RL.bin rfl rfl rfl (BinV.to (d := true) BinV.eql (decide_eq_true rfl)) rfl ?_
        refine RL.move rfl rfl rfl ?_
        refine RL.call rfl rfl Try.call14 rfl (lives_spec) (fun _ => ?_)
        refine RL.pickT rfl rfl rfl rfl ?_
        refine RL.assign rfl rfl rfl ?_
        refine RL.nil ?_
        refine NX.seq ?_
        refine TR.ret ?_
        exact NX.ret1 () rfl rfl rfl (fun w hw => (hw.to 2 [] 2 [] rfl))
end Go.Proofs.Ytkdeopioelocnaa

namespace Go.Proofs.Ytkdeopioelocnaa
open Go.ChangeShapes Go.WideShapes Go.ChangeAt Go.RowKit Go.GL Go.GL.Tree
theorem documentRemembers_params : Try.f4.params = #[22, 22, 3] := by kernel_rfl
set_option maxRecDepth 100000 in
theorem documentRemembers_lifted (os : Os) (started : os.Started) (H : Type) (enc : TypeId × Value → H) :
    ReturnsInHanded {} Try.checked os 4 .any (Rows.documentRemembersSpec.pre6 enc Try.prog Try.f4 Rows.documentRemembersRow.domain false) (Rows.documentRemembersSpec.post enc Try.prog Try.f4 false true false false) := by
  refine returnsInHanded_of_change (C := Try.checked) own_ started (by kernel_rfl) Try.func4
    (ChangeSpec.witness6 (enc := enc) (C := Try.checked) false ⟨#[], #[.slice none 0 0, .slice none 0 0, .int .i64 0], []⟩ 8 (by kernel_rfl) (by kernel_rfl) (by kernel_rfl) (by kernel_rfl)) ?_
  intro W base args ds gs before hval0 hW _ _
  have hval : ∀ (j : Nat) t v, Try.f4.params[j]? = some t → args[j]? = some v → Value.okWide Try.prog W .any base t v := hval0
  have hW' := hW
  obtain ⟨p, q, hA0, hV, rfl, hfz, hnd⟩ := hW
  have hA : DataW.TrodAll enc Try.prog W 0 (fun _ => true) true Try.f4.params.toList args.toList ds p := hA0
  rw [documentRemembers_params] at hA hval
  obtain ⟨v0, vs0, d0, ds0, p0, q0, hargs, rfl, rfl, h0, r0⟩ := trodAll_cons hA
  obtain ⟨v1, vs1, d1, ds1, p1, q1, rfl, rfl, rfl, h1, r1⟩ := trodAll_cons r0
  obtain ⟨v2, vs2, d2, ds2, p2, q2, rfl, rfl, rfl, h2, r2⟩ := trodAll_cons r1
  obtain ⟨rfl, rfl, rfl⟩ := trodAll_nil r2
  obtain rfl : args = #[v0, v1, v2] := by cases args; simp_all
  obtain ⟨oa0, ca0, xs0, rfl, hxa0, hxl0, hxm0, hxr0⟩ := in_ints1 sl22 i64_3 one3 (hval 0 22 v0 rfl rfl) h0
  have hok0 : IntsOk xs0 := ⟨by simp [maxLen] at hxm0; omega, hxr0⟩
  obtain ⟨oa1, ca1, xs1, rfl, hxa1, hxl1, hxm1, hxr1⟩ := in_ints1 sl22 i64_3 one3 (hval 1 22 v1 rfl rfl) h1
  have hok1 : IntsOk xs1 := ⟨by simp [maxLen] at hxm1; omega, hxr1⟩
  obtain ⟨o2, rfl, _, _, ho2⟩ := open_int (isI64_is i64_3) (hval 2 3 v2 rfl rfl) h2
  have hoi2 : -9223372036854775808 ≤ o2 ∧ o2 ≤ 9223372036854775807 := by simpa [Lit.wf, IntKind.min, IntKind.max, IntKind.signed, IntKind.bits] using ho2
  have hwalk := law_run (W := W) (law_remembers (xs := xs0) (ms := xs1) (around := o2) (oa := oa0) (om := oa1) (ca := ca0) (cm := ca1) (M := []) (F := [OldF W, ArrF oa0 (ints xs0), ArrF oa1 (ints xs1)]) (.tail _ (.head _)) (.tail _ (.tail _ (.head _))) hxl0 hok0 hok1 hoi2) (fun φ hφ => by
      rcases List.mem_cons.1 hφ with e | hφ
      · subst e; exact hxa0
      rcases List.mem_cons.1 hφ with e | hφ
      · subst e; exact hxa1
      cases hφ)
  exact hwalk.mono fun e W' ⟨he, hb⟩ => ⟨_, he, law_post (tb := 4) laidOut_ (by kernel_rfl) rfl (by kernel_rfl) (by kernel_rfl) rfl hW' hb⟩
theorem documentRemembers_holds : Rows.DocumentRemembersSaid :=
  OpenClaim.holds_of_wide 4 Try.f4 rfl rfl rfl rfl rfl rfl rfl ⟨rfl, rfl, rfl, rfl, rfl⟩ rfl rfl rfl rfl rfl (by kernel_rfl) Try.func4 (by kernel_rfl)
    (of_decide_eq_true (by kernel_rfl)) (by unfold Func.isWrapper; first | (rw [if_pos (by decide +kernel)]; kernel_rfl) | (rw [if_neg (by decide +kernel)]; exact ⟨rfl, rfl⟩))
    (fun os started H enc _ => documentRemembers_lifted os started H enc)
end Go.Proofs.Ytkdeopioelocnaa
