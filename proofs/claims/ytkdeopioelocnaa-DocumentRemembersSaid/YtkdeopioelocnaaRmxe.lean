/- Lemmas and walks for the proof of RemJ: texts one behind the other. No condition. -/
import Derived.Test.YtkdeopioelocnaaRmxd
set_option linter.unusedVariables false
set_option linter.unusedSimpArgs false
namespace Go.Proofs.Ytkdeopioelocnaa
open Go.GL
set_option linter.unusedVariables false
theorem ra_bs22_1_0 (x0 : Int) : BuildSV Try.prog 22 3 1 [(0, .int .i64 x0)] [.int .i64 x0] := fun w => by kernel_rfl
theorem ra_bs26_1_0 (x00 : Int) (x01 : Int) (x02 : List UInt8) : BuildSV Try.prog 26 78 1 [(0, .agg #[.int .i64 x00, .int .i64 x01, S x02])] [.int .i64 x00, .int .i64 x01, S x02] := fun w => by kernel_rfl
theorem ra_bv78_0_1_2 (x0 : Int) (x1 : Int) (x2 : List UInt8) : BuildV Try.prog 78 [(0, .int .i64 x0), (1, .int .i64 x1), (2, S x2)] (.agg #[.int .i64 x0, .int .i64 x1, S x2]) := fun w => by kernel_rfl
theorem ra_ni22 : noInt Try.prog 22 = true := by kernel_rfl
theorem ra_ni26 : noInt Try.prog 26 = true := by kernel_rfl
theorem ra_ta61 : tyAgg Try.prog 61 2 = true := by kernel_rfl
theorem ra_te3 : tyElem Try.prog 3 1 8 = true := by kernel_rfl
theorem ra_te78 : tyElem Try.prog 78 3 32 = true := by kernel_rfl
theorem ra_tf61_0 : fieldOff Try.prog 61 0 0 = true := by kernel_rfl
theorem ra_tf61_1 : fieldOff Try.prog 61 1 1 = true := by kernel_rfl
theorem ra_tf63_0 : fieldOff Try.prog 63 0 0 = true := by kernel_rfl
theorem ra_tf63_1 : fieldOff Try.prog 63 1 2 = true := by kernel_rfl
theorem ra_tf63_2 : fieldOff Try.prog 63 2 4 = true := by kernel_rfl
theorem ra_tl22 : tySlice Try.prog 22 3 = true := by kernel_rfl
theorem ra_tl26 : tySlice Try.prog 26 78 = true := by kernel_rfl
theorem ra_tl28 : tySlice Try.prog 28 63 = true := by kernel_rfl
theorem ra_ts3 : tyScalar Try.prog 3 = true := by kernel_rfl
theorem ra_ts9 : tyScalar Try.prog 9 = true := by kernel_rfl
theorem ra_tstr9 : tyStr Try.prog 9 = true := by kernel_rfl
theorem ra_tz3 : tySize Try.prog 3 1 = true := by kernel_rfl
theorem ra_tz63 : tySize Try.prog 63 5 = true := by kernel_rfl
theorem rlines_spec {tx : List UInt8} {M : List HP} {F : List Fact} (hl : tx.length ≤ 1099511627776) : Ctr Try.prog 104 [S tx] M F (Option Addr × Nat) (fun z => .slice z.1 (linesL tx).length z.2) (fun _ => M) (fun z => ArrF z.1 (ints (linesL tx)) :: F) := by
  refine Ctr.body Try.func104 rfl rfl ?_
  refine TR.seq ?_
  refine TR.region ?_
  refine RL.assign rfl rfl rfl ?_
  refine RL.nil ?_
  refine NX.seq ?_
  refine TR.seq ?_
  refine TR.region ?_
  refine RL.buildSlice rfl rfl (ra_bs22_1_0 _) rfl (fun b1 => ?_)
  refine RL.weak (fun w hw => St.boxSl (n := 1) (size := 1) rfl (by decide) hw) ?_
  refine RL.assign rfl rfl rfl ?_
  refine RL.nil ?_
  refine NX.seq ?_
  refine TR.seq ?_
  refine TR.seq ?_
  refine TR.region ?_
  refine RL.assign rfl rfl rfl ?_
  refine RL.nil ?_
  refine NX.seq ?_
  refine TR.block ?_
  refine TR.loopP (ι := PbX) (fun x => x.k ≤ tx.length) (fun x => [(0, S tx), (3, .slice x.oa (linesL (tx.take x.k)).length x.c), (4, I (x.k : Nat))]) (fun x => OwnSl 3 1 x.oa (linesL (tx.take x.k)).length x.c (ints (linesL (tx.take x.k))) :: M) (fun x => F) (fun x => tx.length - x.k) ⟨0, [], some ⟨b1, 0, none⟩, 1⟩ (Nat.zero_le _) ⟨rfl, rfl, rfl, trivial⟩ (fun w hw => (hw.to 1 [0] 0 [] rfl)) (fun x hx => ?_)
  refine TR.seq ?_
  refine TR.seq ?_
  refine TR.region ?_
  refine RL.move rfl rfl rfl ?_
  refine RL.move rfl rfl rfl ?_
  refine RL.lenStr rfl ra_tstr9 rfl rfl ?_
  refine RL.bin rfl rfl rfl BinV.lss rfl ?_
  refine RL.nil ?_
  refine NX.seq ?_
  refine TR.cond rfl (fun h2 => ?_) (fun h2 => ?_)
  · skip
    have hk : x.k < tx.length := by have := of_decide_eq_true h2; omega
    have hst := lines_step hk
    have hll := lines_len (tx.take x.k)
    rw [List.length_take] at hll
    refine TR.skip ?_
    refine NX.seq ?_
    refine TR.seq ?_
    refine TR.block ?_
    refine TR.seq ?_
    refine TR.region ?_
    refine RL.move rfl rfl rfl ?_
    refine RL.move rfl rfl rfl ?_
    refine RL.indexS rfl ra_tstr9 rfl rfl (by omega) (List.getElem?_eq_getElem (show ((x.k : Nat) : Int).toNat < tx.length by omega)) rfl ?_
    refine RL.bin rfl rfl rfl BinV.eql rfl ?_
    refine RL.nil ?_
    refine NX.seq ?_
    refine TR.cond rfl (fun h3 => ?_) (fun h3 => ?_)
    · skip
      have h10 : tx[x.k].toNat = 10 := by have := of_decide_eq_true h3; simp only [Int.toNat_natCast] at this; omega
      rw [if_pos h10] at hst
      refine TR.region ?_
      refine RL.move rfl rfl rfl ?_
      refine RL.move rfl rfl rfl ?_
      refine RL.bin rfl rfl rfl (BinV.add ((x.k + 1 : Nat) : Int) (by omega) (by omega) (by omega)) rfl ?_
      refine RL.buildSlice rfl rfl (ra_bs22_1_0 _) rfl (fun b4 => ?_)
      refine RL.ofGV rfl rfl (GV.append (j := 1) ra_tl22 ra_ni22 ra_te3 rfl rfl rfl (src_box (i := 0) rfl rfl rfl) (by omega) (by omega)) (fun y => ?_)
      refine RL.assign rfl rfl rfl ?_
      refine RL.nil ?_
      refine NX.off ?_
      refine NX.seq ?_
      refine TR.region ?_
      refine RL.move rfl rfl rfl ?_
      refine RL.bin rfl rfl rfl (BinV.add _ rfl (by omega) (by omega)) rfl ?_
      refine RL.assign rfl rfl rfl ?_
      refine RL.nil ?_
      refine NX.roundP ⟨x.k + 1, [], y.1, y.2⟩ hk (by show _ - (x.k + 1) < _ - x.k; omega) ⟨rfl, ?_, rfl, trivial⟩ (fun w hw => ?_)
      · show some (Value.slice y.1 ((linesL (tx.take x.k)).length + 1) y.2) = some (Value.slice y.1 (linesL (tx.take (x.k + 1))).length y.2)
        rw [hst, List.length_append]; rfl
      · have h9 := (hw.to 2 [1] 0 [] rfl)
        show St w (OwnSl 3 1 y.1 (linesL (tx.take (x.k + 1))).length y.2 (ints (linesL (tx.take (x.k + 1)))) :: M) F
        rw [hst, List.length_append, show ∀ a b : List Int, ints (a ++ b) = ints a ++ ints b from fun a b => List.map_append]
        exact h9
    · skip
      have h10 : ¬ tx[x.k].toNat = 10 := by have := of_decide_eq_false h3; simp only [Int.toNat_natCast] at this; omega
      rw [if_neg h10, List.append_nil] at hst
      refine TR.skip ?_
      refine NX.off ?_
      refine NX.seq ?_
      refine TR.region ?_
      refine RL.move rfl rfl rfl ?_
      refine RL.bin rfl rfl rfl (BinV.add _ rfl (by omega) (by omega)) rfl ?_
      refine RL.assign rfl rfl rfl ?_
      refine RL.nil ?_
      refine NX.roundP ⟨x.k + 1, [], x.oa, x.c⟩ hk (by show _ - (x.k + 1) < _ - x.k; omega) ⟨rfl, ?_, rfl, trivial⟩ (fun w hw => ?_)
      · show some (Value.slice x.oa (linesL (tx.take x.k)).length x.c) = some (Value.slice x.oa (linesL (tx.take (x.k + 1))).length x.c)
        rw [hst]
      · have h9 := (hw.to 1 [0] 0 [] rfl)
        show St w (OwnSl 3 1 x.oa (linesL (tx.take (x.k + 1))).length x.c (ints (linesL (tx.take (x.k + 1)))) :: M) F
        rw [hst]
        exact h9
  · skip
    have hk2 : x.k = tx.length := by have := of_decide_eq_false h2; have := hx; omega
    refine TR.exit ?_
    refine NX.exitThen ?_
    refine NX.exitThen ?_
    refine NX.exitHere ?_
    refine NX.seq ?_
    refine TR.seq ?_
    refine TR.region ?_
    refine RL.move rfl rfl rfl ?_
    refine RL.assign rfl rfl rfl ?_
    refine RL.nil ?_
    refine NX.seq ?_
    refine TR.ret ?_
    rw [hk2, List.take_length]
    exact NX.ret1 (x.oa, x.c) rfl rfl rfl (fun w hw => ((hw.to 1 [0] 0 [] rfl) : St w _ _).keepSl)
set_option maxHeartbeats 1000000 in
theorem roffset_spec {tx : List UInt8} {q : Po} {M : List HP} {F : List Fact} (hl : tx.length ≤ 1099511627776) : Ctr Try.prog 94 [S tx, .agg (q.c).toArray] M F Unit (fun _ => .tuple #[I (offM tx q).1, I (offM tx q).2]) (fun _ => M) (fun _ => F) := by
  refine Ctr.body Try.func94 rfl rfl ?_
  refine TR.seq ?_
  refine TR.region ?_
  refine RL.boxA rfl rfl rfl (fun b1 => ?_)
  refine RL.assign rfl rfl rfl ?_
  refine RL.assign rfl rfl rfl ?_
  refine RL.nil ?_
  refine NX.seq ?_
  refine TR.seq ?_
  refine TR.region ?_
  refine RL.move rfl rfl rfl ?_
  refine RL.call rfl rfl Try.call104 rfl (rlines_spec hl) (fun z => ?_)
  refine RL.assign rfl rfl rfl ?_
  refine RL.nil ?_
  refine NX.seq ?_
  refine TR.seq ?_
  refine TR.seq ?_
  refine TR.region ?_
  refine RL.fieldAddr rfl ra_tf61_0 rfl rfl ?_
  refine RL.load1 0 rfl ra_ts3 rfl rfl rfl rfl ?_
  refine RL.bin rfl rfl rfl BinV.lss rfl ?_
  refine RL.move rfl rfl rfl ?_
  refine RL.part (fun h2 => ?_) (fun h2 => ?_)
  · skip
    have hbad : q.l < 0 ∨ q.u < 0 ∨ ((linesL tx).length : Int) ≤ q.l := .inl (of_decide_eq_true h2)
    refine RL.skip rfl rfl rfl ?_
    refine RL.skip rfl rfl rfl ?_
    refine RL.skip rfl rfl rfl ?_
    refine RL.pickT rfl rfl rfl rfl ?_
    refine RL.move rfl rfl rfl ?_
    refine RL.skip rfl rfl rfl ?_
    refine RL.skip rfl rfl rfl ?_
    refine RL.skip rfl rfl rfl ?_
    refine RL.skip rfl rfl rfl ?_
    refine RL.skip rfl rfl rfl ?_
    refine RL.pickT rfl rfl rfl rfl ?_
    refine RL.nil ?_
    refine NX.seq ?_
    refine TR.condT rfl ?_
    refine TR.seq ?_
    refine TR.region ?_
    refine RL.assign rfl rfl rfl ?_
    refine RL.assign rfl rfl rfl ?_
    refine RL.nil ?_
    refine NX.seq ?_
    refine TR.ret ?_
    refine NX.retThen ?_
    exact NX.ret2 () rfl rfl rfl (by rw [show offM tx q = (0, 5) from (off_ref tx q).trans (if_pos hbad)]) (fun w hw => (hw.to 1 [] 1 [] rfl))
  · skip
    have hb1 := of_decide_eq_false h2
    refine RL.fieldAddr rfl ra_tf61_1 rfl rfl ?_
    refine RL.load1 0 rfl ra_ts3 rfl rfl rfl rfl ?_
    refine RL.bin rfl rfl rfl BinV.lss rfl ?_
    refine RL.pickF rfl rfl rfl rfl ?_
    refine RL.move rfl rfl rfl ?_
    refine RL.part (fun h3 => ?_) (fun h3 => ?_)
    · skip
      have hbad : q.l < 0 ∨ q.u < 0 ∨ ((linesL tx).length : Int) ≤ q.l := .inr (.inl (of_decide_eq_true h3))
      refine RL.skip rfl rfl rfl ?_
      refine RL.skip rfl rfl rfl ?_
      refine RL.skip rfl rfl rfl ?_
      refine RL.skip rfl rfl rfl ?_
      refine RL.skip rfl rfl rfl ?_
      refine RL.pickT rfl rfl rfl rfl ?_
      refine RL.nil ?_
      refine NX.seq ?_
      refine TR.condT rfl ?_
      refine TR.seq ?_
      refine TR.region ?_
      refine RL.assign rfl rfl rfl ?_
      refine RL.assign rfl rfl rfl ?_
      refine RL.nil ?_
      refine NX.seq ?_
      refine TR.ret ?_
      refine NX.retThen ?_
      exact NX.ret2 () rfl rfl rfl (by rw [show offM tx q = (0, 5) from (off_ref tx q).trans (if_pos hbad)]) (fun w hw => (hw.to 1 [] 1 [] rfl))
    · skip
      have hb2 := of_decide_eq_false h3
      refine RL.fieldAddr rfl ra_tf61_0 rfl rfl ?_
      refine RL.load1 0 rfl ra_ts3 rfl rfl rfl rfl ?_
      refine RL.move rfl rfl rfl ?_
      refine RL.lenSlice rfl ra_tl22 rfl rfl ?_
      refine RL.bin rfl rfl rfl BinV.geq rfl ?_
      refine RL.pickF rfl rfl rfl rfl ?_
      refine RL.nil ?_
      refine NX.seq ?_
      refine TR.cond rfl (fun h4 => ?_) (fun h4 => ?_)
      · skip
        have hbad : q.l < 0 ∨ q.u < 0 ∨ ((linesL tx).length : Int) ≤ q.l := .inr (.inr (by have := of_decide_eq_true h4; omega))
        refine TR.seq ?_
        refine TR.region ?_
        refine RL.assign rfl rfl rfl ?_
        refine RL.assign rfl rfl rfl ?_
        refine RL.nil ?_
        refine NX.seq ?_
        refine TR.ret ?_
        refine NX.retThen ?_
        exact NX.ret2 () rfl rfl rfl (by rw [show offM tx q = (0, 5) from (off_ref tx q).trans (if_pos hbad)]) (fun w hw => (hw.to 1 [] 1 [] rfl))
      · skip
        have hb3 : q.l < ((linesL tx).length : Int) := by have := of_decide_eq_false h4; omega
        have hok : ¬ (q.l < 0 ∨ q.u < 0 ∨ ((linesL tx).length : Int) ≤ q.l) := by omega
        have hoff := (off_ref tx q).trans (if_neg hok)
        obtain ⟨g1, g2, g3, _, _⟩ := line_at (s := tx) (j := q.l.toNat) (by omega)
        have hlt := lines_len tx
        obtain ⟨a, ha⟩ : ∃ n : Nat, (linesL tx).getD q.l.toNat 0 = n := ⟨((linesL tx).getD q.l.toNat 0).toNat, by omega⟩
        obtain ⟨e, he⟩ : ∃ n : Nat, lineEnd tx q.l.toNat = n := ⟨(lineEnd tx q.l.toNat).toNat, by omega⟩
        rw [ha] at g1 g2; rw [he] at g2 g3
        rw [ha, he] at hoff
        have hsl : (cutI tx (a : Int) (e : Int)).length = e - a := by unfold cutI; rw [List.length_drop, List.length_take]; omega
        refine TR.openP (open_arr (oa := z.1) (xs := ints (linesL tx)) (.head _) (ints_ne (by omega))) (fun pl hpl => ?_)
        refine TR.skip ?_
        refine NX.seq ?_
        refine TR.seq ?_
        refine TR.region ?_
        refine RL.move rfl rfl rfl ?_
        refine RL.lenStr rfl ra_tstr9 rfl rfl ?_
        refine RL.assign rfl rfl rfl ?_
        refine RL.nil ?_
        refine NX.seq ?_
        refine TR.cut (ι := Unit) (fun _ => [(0, S tx), (3, .pointer (some ⟨b1, 0, none⟩)), (6, .slice z.1 (linesL tx).length z.2), (7, I (e : Nat))]) (fun _ => Box b1 61 q.c :: M) (fun _ => CellsF pl.1 pl.2 (ints (linesL tx)) :: ArrF z.1 (ints (linesL tx)) :: F) ?_ (fun _ => ?_)
        · skip
          refine TR.seq ?_
          refine TR.region ?_
          refine RL.fieldAddr rfl ra_tf61_0 rfl rfl ?_
          refine RL.load1 0 rfl ra_ts3 rfl rfl rfl rfl ?_
          refine RL.bin rfl rfl rfl (BinV.add _ rfl (by omega) (by omega)) rfl ?_
          refine RL.move rfl rfl rfl ?_
          refine RL.lenSlice rfl ra_tl22 rfl rfl ?_
          refine RL.bin rfl rfl rfl BinV.lss rfl ?_
          refine RL.nil ?_
          refine NX.seq ?_
          refine TR.cond rfl (fun h5 => ?_) (fun h5 => ?_)
          · skip
            have h34 := of_decide_eq_true h5
            have he7 : (linesL tx).getD (q.l + 1).toNat 0 = (e : Int) + 1 := by
              rw [← he]; unfold lineEnd; rw [if_pos (by omega), show (q.l + 1).toNat = q.l.toNat + 1 from by omega]; omega
            refine TR.region ?_
            refine RL.move rfl rfl rfl ?_
            refine RL.fieldAddr rfl ra_tf61_0 rfl rfl ?_
            refine RL.load1 0 rfl ra_ts3 rfl rfl rfl rfl ?_
            refine RL.bin rfl rfl rfl (BinV.add _ rfl (by omega) (by omega)) rfl ?_
            refine RL.indexAddr rfl ra_tl22 ra_tz3 (congrArg (fun a => some (Value.slice a _ _)) hpl) rfl (by omega) (by omega) rfl ?_
            refine RL.loadF rfl rfl (fun w K hF => run_loadCell1 (j := (q.l + 1).toNat * 1) (v := I ((e : Int) + 1)) (hF (CellsF pl.1 pl.2 (ints (linesL tx))) (.head _)) ra_ts3 (by rw [Nat.mul_one, ← he7]; exact ints_getD (by omega))) rfl ?_
            refine RL.bin rfl rfl rfl (BinV.sub (e : Int) (by omega) (by omega) (by omega)) rfl ?_
            refine RL.assign rfl rfl rfl ?_
            refine RL.nil ?_
            exact NX.meet () ⟨rfl, rfl, rfl, rfl, trivial⟩ (fun w hw => (hw.to 1 [0] 2 [0, 1] rfl))
          · skip
            have h34 := of_decide_eq_false h5
            have he7 : (e : Int) = (tx.length : Int) := by
              rw [← he]; unfold lineEnd; rw [if_neg (by omega)]
            refine TR.skip ?_
            exact NX.meet () ⟨rfl, rfl, rfl, congrArg (fun z => some (I z)) he7.symm, trivial⟩ (fun w hw => (hw.to 1 [0] 2 [0, 1] rfl))
        refine TR.seq ?_
        refine TR.seq ?_
        refine TR.sub (E' := [(0, _), (3, _), (6, _), (7, _)]) ⟨rfl, rfl, rfl, rfl, trivial⟩ ?_
        refine TR.draw mixed ?_
        apply AR.more [(0, _), (1, _), (2, _), (3, _), (4, _), (5, _), (6, _), (7, _), (8, _), (9, _)]
        refine AR.eff [0, 1, 2, 3, 4, 5, 6, 7, 8, 9] 10 [0, 1, 2, 3, 4, 5, 6, 7, 8, 9, 10, 11] ⟨QOne.yes rfl rfl rfl (PV.fieldAddr ra_tf61_1 rfl), QOne.yes rfl rfl rfl (PV.load1 0 ra_ts3 rfl rfl rfl), QOne.yes rfl rfl rfl (PV.move rfl), QOne.yes rfl rfl rfl (PV.move rfl), QOne.yes rfl rfl rfl (PV.fieldAddr ra_tf61_0 rfl), QOne.yes rfl rfl rfl (PV.load1 0 ra_ts3 rfl rfl rfl), QOne.yes rfl rfl rfl (PV.indexAddr ra_tl22 ra_tz3 (congrArg (fun a => some (Value.slice a _ _)) hpl) rfl (by omega) (by omega)), QOne.yes rfl rfl rfl (PV.loadF rfl (fun w K hF => run_loadCell1 (j := q.l.toNat * 1) (v := I (a : Int)) (hF (CellsF pl.1 pl.2 (ints (linesL tx))) (.head _)) ra_ts3 (by rw [Nat.mul_one, ← ha]; exact ints_getD (by omega)))), QOne.yes rfl rfl rfl (PV.move rfl), QOne.yes rfl rfl rfl (PV.sliceS ra_tstr9 rfl rfl rfl (by omega) (by omega) (by omega)), trivial⟩ rfl rfl rfl rfl rfl rfl rfl (EV.call rfl Try.call76 (unitsr_spec (tx := (cutI tx (a : Int) (e : Int))) (by rw [hsl]; omega))) (fun _ => ?_)
        refine AR.done [9, 2, 7, 8, 6, 3, 5, 4] rfl ?_
        apply AR.more [(11, _)]
        refine AR.last [0, 1, 11] [0, 1, 2, 3, 4, 5, 6, 7, 8, 9, 10, 11] ⟨QOne.yes rfl rfl rfl (PV.fieldAddr ra_tf61_1 rfl), QOne.yes rfl rfl rfl (PV.load1 0 ra_ts3 rfl rfl rfl), QOne.yes rfl rfl rfl (PV.bin rfl rfl BinV.gtr), trivial⟩ rfl rfl rfl ?_
        refine NX.sub (E' := [(0, _), (3, _), (6, _), (7, _), (53, _)]) ⟨rfl, rfl, rfl, rfl, rfl, trivial⟩ ?_
        refine NX.seq ?_
        refine TR.cond rfl (fun h6 => ?_) (fun h6 => ?_)
        · skip
          have hfar := of_decide_eq_true h6
          refine TR.seq ?_
          refine TR.region ?_
          refine RL.assign rfl rfl rfl ?_
          refine RL.assign rfl rfl rfl ?_
          refine RL.nil ?_
          refine NX.seq ?_
          refine TR.ret ?_
          refine NX.retThen ?_
          exact NX.ret2 () rfl rfl rfl (by rw [hoff.trans (if_pos hfar)]) (fun w hw => (hw.to 1 [] 2 [] rfl))
        · skip
          have hoff2 := hoff.trans (if_neg (of_decide_eq_false h6))
          have hbl := bords_len _ (l := (cutI tx (a : Int) (e : Int))) (i := 0) (Nat.le_refl _)
          refine TR.skip ?_
          refine NX.seq ?_
          refine TR.seq ?_
          refine TR.region ?_
          refine RL.move rfl rfl rfl ?_
          refine RL.move rfl rfl rfl ?_
          refine RL.fieldAddr rfl ra_tf61_0 rfl rfl ?_
          refine RL.load1 0 rfl ra_ts3 rfl rfl rfl rfl ?_
          refine RL.indexAddr rfl ra_tl22 ra_tz3 (congrArg (fun a => some (Value.slice a _ _)) hpl) rfl (by omega) (by omega) rfl ?_
          refine RL.loadF rfl rfl (fun w K hF => run_loadCell1 (j := q.l.toNat * 1) (v := I (a : Int)) (hF (CellsF pl.1 pl.2 (ints (linesL tx))) (.head _)) ra_ts3 (by rw [Nat.mul_one, ← ha]; exact ints_getD (by omega))) rfl ?_
          refine RL.move rfl rfl rfl ?_
          refine RL.sliceS rfl ra_tstr9 rfl rfl rfl (by omega) (by omega) (by omega) rfl ?_
          refine RL.call rfl rfl Try.call75 rfl (borders_spec (tx := (cutI tx (a : Int) (e : Int))) (by rw [hsl]; omega)) (fun zb => ?_)
          refine RL.assign rfl rfl rfl ?_
          refine RL.nil ?_
          refine NX.seq ?_
          refine TR.seq ?_
          refine TR.seq ?_
          refine TR.region ?_
          refine RL.assign rfl rfl rfl ?_
          refine RL.nil ?_
          refine NX.seq ?_
          refine TR.block ?_
          refine TR.loopP (ι := Nat) (fun k => k ≤ (bords (cutI tx (a : Int) (e : Int)) 0).length ∧ ∀ j, j < k → ∀ (h : j < (bords (cutI tx (a : Int) (e : Int)) 0).length), decide (unitsL ((cutI tx (a : Int) (e : Int)).take ((bords (cutI tx (a : Int) (e : Int)) 0)[j]).toNat) = q.u) = false) (fun k => [(0, S tx), (3, .pointer (some ⟨b1, 0, none⟩)), (6, .slice z.1 (linesL tx).length z.2), (7, I (e : Nat)), (8, .slice zb.1 (bords (cutI tx (a : Int) (e : Int)) 0).length zb.2), (9, I (k : Nat))]) (fun k => Box b1 61 q.c :: M) (fun k => ArrF zb.1 (ints (bords (cutI tx (a : Int) (e : Int)) 0)) :: CellsF pl.1 pl.2 (ints (linesL tx)) :: F) (fun k => (bords (cutI tx (a : Int) (e : Int)) 0).length - k) 0 ⟨Nat.zero_le _, fun j h => absurd h (Nat.not_lt_zero j)⟩ ⟨rfl, rfl, rfl, rfl, rfl, rfl, trivial⟩ (fun w hw => (hw.to 1 [0] 3 [0, 1] rfl)) (fun k hx => ?_)
          refine TR.seq ?_
          refine TR.seq ?_
          refine TR.region ?_
          refine RL.move rfl rfl rfl ?_
          refine RL.move rfl rfl rfl ?_
          refine RL.lenSlice rfl ra_tl22 rfl rfl ?_
          refine RL.bin rfl rfl rfl BinV.lss rfl ?_
          refine RL.nil ?_
          refine NX.seq ?_
          refine TR.cond rfl (fun h7 => ?_) (fun h7 => ?_)
          · skip
            have hkb : k < (bords (cutI tx (a : Int) (e : Int)) 0).length := by have := of_decide_eq_true h7; omega
            have hbi := bords_in _ (Nat.le_refl _) (List.getElem_mem hkb)
            rw [hsl] at hbi
            have hst := seg_take (s := tx) (a := a) (e := e) hbi.1 (by omega)
            have hk2 : ∀ j (h : j < k), decide (unitsL ((cutI tx (a : Int) (e : Int)).take ((bords (cutI tx (a : Int) (e : Int)) 0)[j]).toNat) = q.u) = false := fun j h => hx.2 j h (by omega)
            refine TR.openP (open_arr (oa := zb.1) (xs := ints (bords (cutI tx (a : Int) (e : Int)) 0)) (.head _) (ints_ne (bords_ne _ _))) (fun pb hpb => ?_)
            refine TR.skip ?_
            refine NX.seq ?_
            refine TR.seq ?_
            refine TR.block ?_
            refine TR.seq ?_
            refine TR.sub (E' := [(0, _), (3, _), (6, _), (7, _), (8, _), (9, _), (63, _), (64, _), (65, _), (66, _)]) ⟨rfl, rfl, rfl, rfl, rfl, rfl, rfl, rfl, rfl, rfl, trivial⟩ ?_
            refine TR.draw mixed ?_
            apply AR.more [(0, _), (1, _), (2, _), (3, _), (4, _), (5, _), (6, _), (7, _), (8, _), (9, _), (10, _), (11, _), (12, _), (13, _), (14, _), (15, _), (16, _), (18, _), (19, _)]
            refine AR.eff [0, 1, 2, 3, 4, 5, 6, 7, 8, 9, 10, 11, 12, 13, 14, 15, 16, 18, 19] 17 [0, 1, 2, 3, 4, 5, 6, 7, 8, 9, 10, 11, 12, 13, 14, 15, 16, 17, 18, 19, 20] ⟨QOne.yes rfl rfl rfl (PV.move rfl), QOne.yes rfl rfl rfl (PV.move rfl), QOne.yes rfl rfl rfl (PV.fieldAddr ra_tf61_0 rfl), QOne.yes rfl rfl rfl (PV.load1 0 ra_ts3 rfl rfl rfl), QOne.yes rfl rfl rfl (PV.indexAddr ra_tl22 ra_tz3 (congrArg (fun a => some (Value.slice a _ _)) hpl) rfl (by omega) (by omega)), QOne.yes rfl rfl rfl (PV.loadF rfl (fun w K hF => run_loadCell1 (j := q.l.toNat * 1) (v := I (a : Int)) (hF (CellsF pl.1 pl.2 (ints (linesL tx))) (.tail _ (.tail _ (.head _)))) ra_ts3 (by rw [Nat.mul_one, ← ha]; exact ints_getD (by omega)))), QOne.yes rfl rfl rfl (PV.move rfl), QOne.yes rfl rfl rfl (PV.fieldAddr ra_tf61_0 rfl), QOne.yes rfl rfl rfl (PV.load1 0 ra_ts3 rfl rfl rfl), QOne.yes rfl rfl rfl (PV.indexAddr ra_tl22 ra_tz3 (congrArg (fun a => some (Value.slice a _ _)) hpl) rfl (by omega) (by omega)), QOne.yes rfl rfl rfl (PV.loadF rfl (fun w K hF => run_loadCell1 (j := q.l.toNat * 1) (v := I (a : Int)) (hF (CellsF pl.1 pl.2 (ints (linesL tx))) (.tail _ (.tail _ (.head _)))) ra_ts3 (by rw [Nat.mul_one, ← ha]; exact ints_getD (by omega)))), QOne.yes rfl rfl rfl (PV.move rfl), QOne.yes rfl rfl rfl (PV.move rfl), QOne.yes rfl rfl rfl (PV.indexAddr ra_tl22 ra_tz3 (congrArg (fun a => some (Value.slice a _ _)) hpb) rfl (by omega) (by omega)), QOne.yes rfl rfl rfl (PV.loadF rfl (fun w K hF => run_loadCell1 (j := ((k : Nat) : Int).toNat * 1) (v := I (bords (cutI tx (a : Int) (e : Int)) 0)[k]) (hF (CellsF pb.1 pb.2 (ints (bords (cutI tx (a : Int) (e : Int)) 0))) (.head _)) ra_ts3 (by rw [Nat.mul_one, Int.toNat_natCast]; exact ints_get hkb))), QOne.yes rfl rfl rfl (PV.bin rfl rfl (BinV.add _ rfl (by omega) (by omega))), QOne.yes rfl rfl rfl (PV.sliceS ra_tstr9 rfl rfl rfl (by omega) (by omega) (by omega)), QOne.yes rfl rfl rfl (PV.fieldAddr ra_tf61_1 rfl), QOne.yes rfl rfl rfl (PV.load1 0 ra_ts3 rfl rfl rfl), trivial⟩ rfl rfl rfl rfl rfl rfl rfl (EV.call rfl Try.call76 (unitsr_spec (tx := (tx.take ((a : Int) + (bords (cutI tx (a : Int) (e : Int)) 0)[k]).toNat).drop ((a : Int)).toNat) (by rw [List.length_drop, List.length_take]; omega))) (fun _ => ?_)
            refine AR.done [16, 0, 5, 15, 10, 14, 4, 1, 3, 13, 9, 6, 8, 11, 12, 2, 7] rfl ?_
            apply AR.more [(20, _)]
            refine AR.last [18, 19, 20] [0, 1, 2, 3, 4, 5, 6, 7, 8, 9, 10, 11, 12, 13, 14, 15, 16, 17, 18, 19, 20] ⟨QOne.yes rfl rfl rfl (PV.fieldAddr ra_tf61_1 rfl), QOne.yes rfl rfl rfl (PV.load1 0 ra_ts3 rfl rfl rfl), QOne.yes rfl rfl rfl (PV.bin rfl rfl BinV.eql), trivial⟩ rfl rfl rfl ?_
            refine NX.sub (E' := [(0, _), (3, _), (6, _), (7, _), (8, _), (9, _), (63, _), (64, _), (65, _), (66, _), (69, _), (70, _), (71, _), (72, _), (73, _), (74, _), (75, _), (76, _), (77, _), (78, _), (79, _), (80, _), (81, _), (82, _), (83, _), (84, _), (85, _), (86, _), (87, _), (88, _), (89, _)]) ⟨rfl, rfl, rfl, rfl, rfl, rfl, rfl, rfl, rfl, rfl, rfl, rfl, rfl, rfl, rfl, rfl, rfl, rfl, rfl, rfl, rfl, rfl, rfl, rfl, rfl, rfl, rfl, rfl, rfl, rfl, rfl, trivial⟩ ?_
            refine NX.seq ?_
            refine TR.cond rfl (fun h8 => ?_) (fun h8 => ?_)
            · skip
              have hit : unitsL ((cutI tx (a : Int) (e : Int)).take ((bords (cutI tx (a : Int) (e : Int)) 0)[k]).toNat) = q.u := by have := of_decide_eq_true h8; rw [hst] at this; exact this
              refine TR.seq ?_
              refine TR.sub (E' := [(0, _), (3, _), (6, _), (7, _), (8, _), (9, _), (63, _), (64, _), (65, _), (66, _), (69, _), (70, _), (71, _), (72, _), (73, _), (74, _), (75, _), (76, _), (77, _), (78, _), (79, _), (80, _), (81, _), (82, _), (83, _), (84, _), (85, _), (86, _), (87, _), (88, _), (89, _)]) ⟨rfl, rfl, rfl, rfl, rfl, rfl, rfl, rfl, rfl, rfl, rfl, rfl, rfl, rfl, rfl, rfl, rfl, rfl, rfl, rfl, rfl, rfl, rfl, rfl, rfl, rfl, rfl, rfl, rfl, rfl, rfl, trivial⟩ ?_
              refine TR.draw mixed ?_
              apply AR.more [(0, _), (1, _), (2, _), (3, _), (4, _), (5, _), (6, _), (7, _), (8, _), (9, _), (10, _), (11, _)]
              refine AR.last [0, 1, 2, 3, 4, 5, 6, 7, 8, 9, 10, 11] [0, 1, 2, 3, 4, 5, 6, 7, 8, 9, 10, 11] ⟨QOne.yes rfl rfl rfl (PV.move rfl), QOne.yes rfl rfl rfl (PV.fieldAddr ra_tf61_0 rfl), QOne.yes rfl rfl rfl (PV.load1 0 ra_ts3 rfl rfl rfl), QOne.yes rfl rfl rfl (PV.indexAddr ra_tl22 ra_tz3 (congrArg (fun a => some (Value.slice a _ _)) hpl) rfl (by omega) (by omega)), QOne.yes rfl rfl rfl (PV.loadF rfl (fun w K hF => run_loadCell1 (j := q.l.toNat * 1) (v := I (a : Int)) (hF (CellsF pl.1 pl.2 (ints (linesL tx))) (.tail _ (.tail _ (.head _)))) ra_ts3 (by rw [Nat.mul_one, ← ha]; exact ints_getD (by omega)))), QOne.yes rfl rfl rfl (PV.move rfl), QOne.yes rfl rfl rfl (PV.move rfl), QOne.yes rfl rfl rfl (PV.indexAddr ra_tl22 ra_tz3 (congrArg (fun a => some (Value.slice a _ _)) hpb) rfl (by omega) (by omega)), QOne.yes rfl rfl rfl (PV.loadF rfl (fun w K hF => run_loadCell1 (j := ((k : Nat) : Int).toNat * 1) (v := I (bords (cutI tx (a : Int) (e : Int)) 0)[k]) (hF (CellsF pb.1 pb.2 (ints (bords (cutI tx (a : Int) (e : Int)) 0))) (.head _)) ra_ts3 (by rw [Nat.mul_one, Int.toNat_natCast]; exact ints_get hkb))), QOne.yes rfl rfl rfl (PV.bin rfl rfl (BinV.add _ rfl (by omega) (by omega))), QOne.yes rfl rfl rfl (PV.assign rfl), QOne.yes rfl rfl rfl (PV.assign rfl), trivial⟩ rfl rfl rfl ?_
              refine NX.sub (E' := [(0, _), (3, _), (4, _), (5, _), (6, _), (7, _), (8, _), (9, _), (63, _), (64, _), (65, _), (66, _), (69, _), (70, _), (71, _), (72, _), (73, _), (74, _), (75, _), (76, _), (77, _), (78, _), (79, _), (80, _), (81, _), (82, _), (83, _), (84, _), (85, _), (86, _), (87, _), (88, _), (89, _), (90, _), (91, _), (92, _), (93, _), (94, _), (95, _), (96, _), (97, _), (98, _), (99, _)]) ⟨rfl, rfl, rfl, rfl, rfl, rfl, rfl, rfl, rfl, rfl, rfl, rfl, rfl, rfl, rfl, rfl, rfl, rfl, rfl, rfl, rfl, rfl, rfl, rfl, rfl, rfl, rfl, rfl, rfl, rfl, rfl, rfl, rfl, rfl, rfl, rfl, rfl, rfl, rfl, rfl, rfl, rfl, rfl, trivial⟩ ?_
              refine NX.seq ?_
              refine TR.ret ?_
              refine NX.retBlock ?_
              refine NX.retThen ?_
              refine NX.retThen ?_
              refine NX.retBlock ?_
              refine NX.retThen ?_
              exact NX.ret2 () rfl rfl rfl (by rw [hoff2, find_at hkb hk2 (decide_eq_true hit)]) (fun w hw => (hw.to 1 [] 3 [] rfl))
            · skip
              have hno : ¬ unitsL ((cutI tx (a : Int) (e : Int)).take ((bords (cutI tx (a : Int) (e : Int)) 0)[k]).toNat) = q.u := by have := of_decide_eq_false h8; rw [hst] at this; exact this
              refine TR.skip ?_
              refine NX.off ?_
              refine NX.seq ?_
              refine TR.region ?_
              refine RL.move rfl rfl rfl ?_
              refine RL.bin rfl rfl rfl (BinV.add _ rfl (by omega) (by omega)) rfl ?_
              refine RL.assign rfl rfl rfl ?_
              refine RL.nil ?_
              refine NX.roundP (k + 1) ⟨hkb, fun j hj h => by rcases Nat.lt_succ_iff_lt_or_eq.1 hj with h5 | rfl; exact hk2 j h5; exact decide_eq_false hno⟩ (by omega) ⟨rfl, rfl, rfl, rfl, rfl, rfl, trivial⟩ (fun w hw => (hw.to 1 [0] 3 [1, 2] rfl))
          · skip
            have hkb : k = (bords (cutI tx (a : Int) (e : Int)) 0).length := by have := of_decide_eq_false h7; have := hx.1; omega
            refine TR.exit ?_
            refine NX.exitThen ?_
            refine NX.exitThen ?_
            refine NX.exitHere ?_
            refine NX.seq ?_
            refine TR.seq ?_
            refine TR.region ?_
            refine RL.assign rfl rfl rfl ?_
            refine RL.assign rfl rfl rfl ?_
            refine RL.nil ?_
            refine NX.seq ?_
            refine TR.ret ?_
            exact NX.ret2 () rfl rfl rfl (by rw [hoff2, find_no (fun j hj => hx.2 j (by omega) hj)]) (fun w hw => (hw.to 1 [] 2 [] rfl))
theorem rbytes_spec {tx : List UInt8} {l : List PE} {oa : Option Addr} {ca : Nat} {M : List HP} {F : List Fact} (ha : ArrF oa (peC l) ∈ F) (hl : tx.length ≤ 1099511627776) (hll : l.length ≤ 4611686018427387904) : Ctr Try.prog 82 [S tx, .slice oa l.length ca] M F RdX (fun z => .tuple #[.slice z.oa (posM tx l).1.length z.c, I (posM tx l).2]) (fun _ => M) (fun z => ArrF z.oa (edC (posM tx l).1) :: F) := by
  refine Ctr.body Try.func82 rfl rfl ?_
  refine TR.seq ?_
  refine TR.region ?_
  refine RL.assign rfl rfl rfl ?_
  refine RL.assign rfl rfl rfl ?_
  refine RL.nil ?_
  refine NX.seq ?_
  refine TR.seq ?_
  refine TR.seq ?_
  refine TR.region ?_
  refine RL.move rfl rfl rfl ?_
  refine RL.lenSlice rfl ra_tl28 rfl rfl ?_
  refine RL.bin rfl rfl rfl BinV.gtr rfl ?_
  refine RL.nil ?_
  refine NX.seq ?_
  refine TR.cond rfl (fun h1 => ?_) (fun h1 => ?_)
  · skip
    have hbig : 64 < l.length := by have := of_decide_eq_true h1; omega
    refine TR.seq ?_
    refine TR.region ?_
    refine RL.assign rfl rfl rfl ?_
    refine RL.assign rfl rfl rfl ?_
    refine RL.nil ?_
    refine NX.seq ?_
    refine TR.ret ?_
    refine NX.retThen ?_
    have hpm : posM tx l = ([], 4) := if_pos hbig
    refine NX.ret2 (⟨none, 0⟩ : RdX) rfl rfl rfl (by rw [hpm]; rfl) (fun w hw => ?_)
    rw [hpm]
    exact ((hw.to 0 [] 0 [] rfl) : St w M F).arr0
  · skip
    have hbig : ¬ 64 < l.length := by have := of_decide_eq_false h1; omega
    refine TR.skip ?_
    refine NX.seq ?_
    refine TR.seq ?_
    refine TR.region ?_
    refine RL.assign rfl rfl rfl ?_
    refine RL.weak (fun w hw => OwnSl.nil_new 78 3 hw) ?_
    refine RL.nil ?_
    refine NX.seq ?_
    refine TR.seq ?_
    refine TR.seq ?_
    refine TR.region ?_
    refine RL.assign rfl rfl rfl ?_
    refine RL.nil ?_
    refine NX.seq ?_
    refine TR.block ?_
    refine TR.loopP (ι := PbX) (fun x => x.k ≤ l.length ∧ posGo tx (l.drop x.k) x.es = posGo tx l [] ∧ x.es.length = x.k) (fun x => [(0, S tx), (1, .slice oa l.length ca), (6, .slice x.oa x.es.length x.c), (7, I (x.k : Nat))]) (fun x => OwnSl 78 3 x.oa x.es.length x.c (edC x.es) :: M) (fun x => F) (fun x => l.length - x.k) ⟨0, [], none, 0⟩ ⟨Nat.zero_le _, rfl, rfl⟩ ⟨rfl, rfl, rfl, rfl, trivial⟩ (fun w hw => (hw.to 1 [0] 0 [] rfl)) (fun x hx => ?_)
    refine TR.seq ?_
    refine TR.seq ?_
    refine TR.region ?_
    refine RL.move rfl rfl rfl ?_
    refine RL.move rfl rfl rfl ?_
    refine RL.lenSlice rfl ra_tl28 rfl rfl ?_
    refine RL.bin rfl rfl rfl BinV.lss rfl ?_
    refine RL.nil ?_
    refine NX.seq ?_
    refine TR.cond rfl (fun h2 => ?_) (fun h2 => ?_)
    · skip
      have hk : x.k < l.length := by have := of_decide_eq_true h2; omega
      have hdk := List.drop_eq_getElem_cons hk
      have ho1 := offM_in tx l[x.k].s
      have ho2 := offM_in tx l[x.k].e
      refine TR.openP (open_arr (oa := oa) (xs := peC l) ha (fun e => by have h8 := peC_length l; rw [e] at h8; simp at h8; omega)) (fun pq hpq => ?_)
      refine TR.skip ?_
      refine NX.seq ?_
      refine TR.seq ?_
      refine TR.block ?_
      refine TR.seq ?_
      refine TR.region ?_
      refine RL.move rfl rfl rfl ?_
      refine RL.move rfl rfl rfl ?_
      refine RL.move rfl rfl rfl ?_
      refine RL.indexAddr rfl ra_tl28 ra_tz63 (congrArg (fun a => some (Value.slice a _ _)) hpq) rfl (by omega) (by omega) rfl ?_
      refine RL.fieldAddr rfl ra_tf63_0 rfl rfl ?_
      refine RL.loadF rfl rfl (fun w K hF => run_pos (q := l[x.k].s) (f := 0) (hF (CellsF pq.1 pq.2 (peC l)) (.head _)) ra_ta61 hk rfl rfl) rfl ?_
      refine RL.call rfl rfl Try.call94 rfl (roffset_spec (q := l[x.k].s) hl) (fun _ => ?_)
      refine RL.move rfl rfl rfl ?_
      refine RL.extract rfl rfl rfl rfl ?_
      refine RL.extract rfl rfl rfl rfl ?_
      refine RL.assign rfl rfl rfl ?_
      refine RL.assign rfl rfl rfl ?_
      refine RL.nil ?_
      refine NX.seq ?_
      refine TR.seq ?_
      refine TR.seq ?_
      refine TR.region ?_
      refine RL.move rfl rfl rfl ?_
      refine RL.bin rfl rfl rfl BinV.neq rfl ?_
      refine RL.nil ?_
      refine NX.seq ?_
      refine TR.cond rfl (fun h3 => ?_) (fun h3 => ?_)
      · skip
        have hs : (offM tx l[x.k].s).2 ≠ 0 := of_decide_eq_true h3
        refine TR.seq ?_
        refine TR.region ?_
        refine RL.move rfl rfl rfl ?_
        refine RL.assign rfl rfl rfl ?_
        refine RL.assign rfl rfl rfl ?_
        refine RL.nil ?_
        refine NX.seq ?_
        refine TR.ret ?_
        refine NX.retThen ?_
        refine NX.retBlock ?_
        refine NX.retThen ?_
        refine NX.retThen ?_
        refine NX.retBlock ?_
        refine NX.retThen ?_
        have hpm : posM tx l = ([], (offM tx l[x.k].s).2) := (if_neg hbig).trans (by rw [← hx.2.1, hdk, posGo_cons, firstNZ, if_neg hs, if_pos hs])
        refine NX.ret2 (⟨none, 0⟩ : RdX) rfl rfl rfl (by rw [hpm]; rfl) (fun w hw => ?_)
        rw [hpm]
        exact ((hw.to 1 [] 1 [] rfl) : St w M F).arr0
      · skip
        have hs2 : (offM tx l[x.k].s).2 = 0 := Decidable.not_not.1 (of_decide_eq_false h3)
        refine TR.skip ?_
        refine NX.seq ?_
        refine TR.seq ?_
        refine TR.region ?_
        refine RL.move rfl rfl rfl ?_
        refine RL.move rfl rfl rfl ?_
        refine RL.move rfl rfl rfl ?_
        refine RL.indexAddr rfl ra_tl28 ra_tz63 (congrArg (fun a => some (Value.slice a _ _)) hpq) rfl (by omega) (by omega) rfl ?_
        refine RL.fieldAddr rfl ra_tf63_1 rfl rfl ?_
        refine RL.loadF rfl rfl (fun w K hF => run_pos (q := l[x.k].e) (f := 2) (hF (CellsF pq.1 pq.2 (peC l)) (.head _)) ra_ta61 hk rfl rfl) rfl ?_
        refine RL.call rfl rfl Try.call94 rfl (roffset_spec (q := l[x.k].e) hl) (fun _ => ?_)
        refine RL.move rfl rfl rfl ?_
        refine RL.extract rfl rfl rfl rfl ?_
        refine RL.extract rfl rfl rfl rfl ?_
        refine RL.assign rfl rfl rfl ?_
        refine RL.assign rfl rfl rfl ?_
        refine RL.nil ?_
        refine NX.seq ?_
        refine TR.seq ?_
        refine TR.seq ?_
        refine TR.region ?_
        refine RL.move rfl rfl rfl ?_
        refine RL.bin rfl rfl rfl BinV.neq rfl ?_
        refine RL.nil ?_
        refine NX.seq ?_
        refine TR.cond rfl (fun h4 => ?_) (fun h4 => ?_)
        · skip
          have he : (offM tx l[x.k].e).2 ≠ 0 := of_decide_eq_true h4
          refine TR.seq ?_
          refine TR.region ?_
          refine RL.move rfl rfl rfl ?_
          refine RL.assign rfl rfl rfl ?_
          refine RL.assign rfl rfl rfl ?_
          refine RL.nil ?_
          refine NX.seq ?_
          refine TR.ret ?_
          refine NX.retThen ?_
          refine NX.retBlock ?_
          refine NX.retThen ?_
          refine NX.retThen ?_
          refine NX.retBlock ?_
          refine NX.retThen ?_
          have hpm : posM tx l = ([], (offM tx l[x.k].e).2) := (if_neg hbig).trans (by rw [← hx.2.1, hdk, posGo_cons, firstNZ, if_pos hs2, firstNZ, if_neg he, if_pos he])
          refine NX.ret2 (⟨none, 0⟩ : RdX) rfl rfl rfl (by rw [hpm]; rfl) (fun w hw => ?_)
          rw [hpm]
          exact ((hw.to 1 [] 1 [] rfl) : St w M F).arr0
        · skip
          have he2 : (offM tx l[x.k].e).2 = 0 := Decidable.not_not.1 (of_decide_eq_false h4)
          refine TR.skip ?_
          refine NX.seq ?_
          refine TR.seq ?_
          refine TR.seq ?_
          refine TR.region ?_
          refine RL.move rfl rfl rfl ?_
          refine RL.move rfl rfl rfl ?_
          refine RL.bin rfl rfl rfl BinV.lss rfl ?_
          refine RL.nil ?_
          refine NX.seq ?_
          refine TR.cond rfl (fun h5 => ?_) (fun h5 => ?_)
          · skip
            have hlt : (offM tx l[x.k].e).1 < (offM tx l[x.k].s).1 := of_decide_eq_true h5
            refine TR.seq ?_
            refine TR.region ?_
            refine RL.assign rfl rfl rfl ?_
            refine RL.assign rfl rfl rfl ?_
            refine RL.nil ?_
            refine NX.seq ?_
            refine TR.ret ?_
            refine NX.retThen ?_
            refine NX.retBlock ?_
            refine NX.retThen ?_
            refine NX.retThen ?_
            refine NX.retBlock ?_
            refine NX.retThen ?_
            have hpm : posM tx l = ([], 1) := (if_neg hbig).trans (by rw [← hx.2.1, hdk, posGo_cons, firstNZ, if_pos hs2, firstNZ, if_pos he2, if_neg (by simp [firstNZ]), if_pos hlt])
            refine NX.ret2 (⟨none, 0⟩ : RdX) rfl rfl rfl (by rw [hpm]; rfl) (fun w hw => ?_)
            rw [hpm]
            exact ((hw.to 1 [] 1 [] rfl) : St w M F).arr0
          · skip
            have hlt : ¬ (offM tx l[x.k].e).1 < (offM tx l[x.k].s).1 := of_decide_eq_false h5
            refine TR.skip ?_
            refine NX.seq ?_
            refine TR.region ?_
            refine RL.move rfl rfl rfl ?_
            refine RL.move rfl rfl rfl ?_
            refine RL.move rfl rfl rfl ?_
            refine RL.move rfl rfl rfl ?_
            refine RL.move rfl rfl rfl ?_
            refine RL.indexAddr rfl ra_tl28 ra_tz63 (congrArg (fun a => some (Value.slice a _ _)) hpq) rfl (by omega) (by omega) rfl ?_
            refine RL.fieldAddr rfl ra_tf63_2 rfl rfl ?_
            refine RL.loadF rfl rfl (fun w K hF => run_loadCell1 (j := ((x.k : Nat) : Int).toNat * 5 + 4) (v := S l[x.k].x) (hF (CellsF pq.1 pq.2 (peC l)) (.head _)) ra_ts9 (by rw [Int.toNat_natCast]; exact peC_at hk rfl)) rfl ?_
            refine RL.build rfl rfl (ra_bv78_0_1_2 _ _ _) rfl ?_
            refine RL.buildSlice rfl rfl (ra_bs26_1_0 _ _ _) rfl (fun b6 => ?_)
            refine RL.ofGV rfl rfl (GV.append (j := 1) ra_tl26 ra_ni26 ra_te78 rfl rfl rfl (src_box (i := 0) rfl rfl rfl) (by omega) (by omega)) (fun y => ?_)
            refine RL.assign rfl rfl rfl ?_
            refine RL.nil ?_
            refine NX.off ?_
            refine NX.seq ?_
            refine TR.region ?_
            refine RL.move rfl rfl rfl ?_
            refine RL.bin rfl rfl rfl (BinV.add _ rfl (by omega) (by omega)) rfl ?_
            refine RL.assign rfl rfl rfl ?_
            refine RL.nil ?_
            refine NX.roundP ⟨x.k + 1, x.es ++ [⟨(offM tx l[x.k].s).1, (offM tx l[x.k].e).1, l[x.k].x⟩], y.1, y.2⟩ ⟨hk, by show posGo tx (l.drop (x.k + 1)) _ = _; rw [← hx.2.1, hdk, posGo_cons, firstNZ, if_pos hs2, firstNZ, if_pos he2, if_neg (by simp [firstNZ]), if_neg hlt], by rw [List.length_append]; show x.es.length + 1 = x.k + 1; rw [hx.2.2]⟩ (by show _ - (x.k + 1) < _ - x.k; omega) ⟨rfl, rfl, ?_, rfl, trivial⟩ (fun w hw => ?_)
            · show some (Value.slice y.1 (x.es.length + 1) y.2) = some (Value.slice y.1 (x.es ++ [_]).length y.2)
              rw [List.length_append]; rfl
            · have h9 := (hw.to 2 [1] 1 [] rfl)
              show St w (OwnSl 78 3 y.1 (x.es ++ [_]).length y.2 (edC (x.es ++ [_])) :: M) _
              rw [List.length_append, edC_append]
              exact h9
    · skip
      have hk2 : x.k = l.length := by have := of_decide_eq_false h2; have := hx.1; omega
      refine TR.exit ?_
      refine NX.exitThen ?_
      refine NX.exitThen ?_
      refine NX.exitHere ?_
      refine NX.seq ?_
      refine TR.seq ?_
      refine TR.region ?_
      refine RL.move rfl rfl rfl ?_
      refine RL.assign rfl rfl rfl ?_
      refine RL.assign rfl rfl rfl ?_
      refine RL.nil ?_
      refine NX.seq ?_
      refine TR.ret ?_
      have hpm : posM tx l = (x.es, 0) := (if_neg hbig).trans (by rw [← hx.2.1, hk2, List.drop_length]; rfl)
      refine NX.ret2 (⟨x.oa, x.c⟩ : RdX) rfl rfl rfl (by rw [hpm]) (fun w hw => ?_)
      rw [hpm]
      exact ((hw.to 1 [0] 0 [] rfl) : St w _ _).keepSl
end Go.Proofs.Ytkdeopioelocnaa

namespace Go.GL
set_option linter.unusedVariables false
abbrev flE (s : List UInt8) : Ed → Bool := fun x => !decide (x.x = cutI s x.f x.t)
theorem cut_nat (u : List UInt8) (a b : Nat) : cutI u (a : Int) (b : Int) = (u.drop a).take (b - a) := by
  unfold cutI; rw [Int.toNat_natCast, Int.toNat_natCast, List.drop_take]
end Go.GL

namespace Go.GL
set_option linter.unusedVariables false
def upTo (a b : Int) : List Int := (List.range (b - a).toNat).map fun (i : Nat) => a + (i : Int)
theorem upTo_len (a b : Int) : (upTo a b).length = (b - a).toNat := by unfold upTo; rw [List.length_map, List.length_range]
theorem upTo_cons {a b : Int} (h : a < b) : upTo a b = a :: upTo (a + 1) b := by
  unfold upTo
  rw [show (b - a).toNat = (b - (a + 1)).toNat + 1 from by omega, List.range_succ_eq_map, List.map_cons, List.map_map]
  congr 1
  · omega
  · refine List.map_congr_left fun i _ => ?_
    show a + ((i + 1 : Nat) : Int) = a + 1 + i
    omega
theorem upTo_nil {a b : Int} (h : b ≤ a) : upTo a b = [] := by unfold upTo; rw [show (b - a).toNat = 0 from by omega]; rfl
theorem upTo_at {a b : Int} {i : Nat} (h : i < (upTo a b).length) : (upTo a b)[i] = a + i := (List.getElem_map _).trans (by rw [List.getElem_range])
def srcL (size : Int) : Int → List Ed → List Int
  | q, [] => upTo q size
  | q, e :: es => upTo q e.f ++ (List.replicate e.x.length (-1) ++ srcL size e.t es)
def compS (f g : List Int) : List Int := g.map fun j => if 0 ≤ j then f.getD j.toNat (-1) else -1
def refStep (st : List Ed × Int × List UInt8) (p : UInt8 × Int) : List Ed × Int × List UInt8 :=
  if p.2 < 0 then (st.1, st.2.1, st.2.2 ++ [p.1])
  else (if st.2.1 < p.2 ∨ st.2.2 ≠ [] then st.1 ++ [⟨st.2.1, p.2, st.2.2⟩] else st.1, p.2 + 1, [])
def refSt (u : List UInt8) (c : List Int) : List Ed × Int × List UInt8 := (u.zip c).foldl refStep ([], 0, [])
def refFin (n : Int) (R : List Ed × Int × List UInt8) : List Ed := if R.2.1 < n ∨ R.2.2 ≠ [] then R.1 ++ [⟨R.2.1, n, R.2.2⟩] else R.1
theorem neg_run : ∀ (bs : List UInt8) (l : List Ed) (o : Int) (t : List UInt8), (bs.zip (List.replicate bs.length (-1))).foldl refStep (l, o, t) = (l, o, t ++ bs)
  | [], l, o, t => by simp
  | b :: bs, l, o, t => by
    rw [List.length_cons, List.replicate_succ, List.zip_cons_cons, List.foldl_cons]
    have e : refStep (l, o, t) (b, -1) = (l, o, t ++ [b]) := by unfold refStep; rw [if_pos (by show (-1 : Int) < 0; decide)]
    rw [e, neg_run bs, List.append_assoc]; rfl
theorem up_run : ∀ (bs : List UInt8) (l : List Ed) (o : Int), 0 ≤ o → (bs.zip (upTo o (o + bs.length))).foldl refStep (l, o, []) = (l, o + bs.length, [])
  | [], l, o, h => by simp
  | b :: bs, l, o, h => by
    rw [List.length_cons, upTo_cons (by omega), List.zip_cons_cons, List.foldl_cons]
    have e : refStep (l, o, []) (b, o) = (l, o + 1, []) := by unfold refStep; rw [if_neg (by show ¬ o < 0; omega), if_neg (by simp)]
    have := up_run bs l (o + 1) (by omega)
    rw [e, show o + ((bs.length + 1 : Nat) : Int) = o + 1 + bs.length from by omega, this]
theorem part_run (bs : List UInt8) (l : List Ed) (o p : Int) (t : List UInt8) (hp : 0 ≤ p) (hb : 0 < bs.length) : (bs.zip (upTo p (p + bs.length))).foldl refStep (l, o, t) = (if o < p ∨ t ≠ [] then l ++ [⟨o, p, t⟩] else l, p + bs.length, []) := by
  cases bs with
  | nil => simp at hb
  | cons b bs =>
    rw [List.length_cons, upTo_cons (by omega), List.zip_cons_cons, List.foldl_cons]
    have e : refStep (l, o, t) (b, p) = (if o < p ∨ t ≠ [] then l ++ [⟨o, p, t⟩] else l, p + 1, []) := by unfold refStep; rw [if_neg (by show ¬ p < 0; omega)]
    have := up_run bs (if o < p ∨ t ≠ [] then l ++ [⟨o, p, t⟩] else l) (p + 1) (by omega)
    rw [e, show p + ((bs.length + 1 : Nat) : Int) = p + 1 + bs.length from by omega, this]
def exL (len : Nat) : Nat → List Pa → List Int
  | q, [] => List.replicate (len - q) (-1)
  | q, p :: ps => List.replicate (p.n.toNat - q) (-1) ++ (upTo p.o (p.o + p.s) ++ exL len (p.n + p.s).toNat ps)
def Gd (acc : List Ed) (o : Int) : Prop := joinL acc = acc ∧ ∀ y, acc.getLast? = some y → y.t < o
theorem Gd.snoc {acc : List Ed} {o : Int} (h : Gd acc o) {e : Ed} (he : e.f = o) {o' : Int} (ho : e.t < o') : Gd (acc ++ [e]) o' := by
  refine ⟨by rw [joinL_snoc, h.1, joinStep_new fun y hy => by have := h.2 y hy; omega], fun y hy => ?_⟩
  rw [List.getLast?_append] at hy
  rw [← Option.some.inj hy]; exact ho
theorem Gd.up {acc : List Ed} {o o' : Int} (h : Gd acc o) (ho : o ≤ o') : Gd acc o' := ⟨h.1, fun y hy => by have := h.2 y hy; omega⟩
theorem Gd.join {acc : List Ed} {o : Int} (h : Gd acc o) {e : Ed} (he : e.f = o) : joinL (acc ++ [e]) = acc ++ [e] := by
  rw [joinL_snoc, h.1, joinStep_new fun y hy => by have := h.2 y hy; omega]
theorem fl_nil (s : List UInt8) (o : Nat) : flE s ⟨(o : Int), (o : Int), []⟩ = false := by
  unfold flE cutI
  simp
theorem ex_step {u : List UInt8} {p : Pa} {ps : List Pa} {l : List Ed} {o q : Nat} {po pn pS : Nat} (hpo : p.o = po) (hpn : p.n = pn) (hps : p.s = pS) (h1 : 0 < pS) (h2 : q ≤ pn) (h3 : pn + pS ≤ u.length) :
    ((u.drop q).zip (exL u.length q (p :: ps))).foldl refStep (l, (o : Int), []) = ((u.drop (pn + pS)).zip (exL u.length (pn + pS) ps)).foldl refStep (if (o : Int) < po ∨ (u.drop q).take (pn - q) ≠ [] then l ++ [⟨(o : Int), (po : Int), (u.drop q).take (pn - q)⟩] else l, ((po + pS : Nat) : Int), []) := by
  have e0 : u.drop q = (u.drop q).take (pn - q) ++ ((u.drop pn).take pS ++ u.drop (pn + pS)) := by
    conv => lhs; rw [← List.take_append_drop (pn - q) (u.drop q), List.drop_drop, show q + (pn - q) = pn from by omega]
    congr 1
    conv => lhs; rw [← List.take_append_drop pS (u.drop pn), List.drop_drop]
  have l1 : ((u.drop q).take (pn - q)).length = pn - q := by rw [List.length_take, List.length_drop]; omega
  have l2 : ((u.drop pn).take pS).length = pS := by rw [List.length_take, List.length_drop]; omega
  rw [exL, hpo, hpn, hps, Int.toNat_natCast]
  conv => lhs; rw [e0]
  rw [List.zip_append (by rw [l1, List.length_replicate]), List.zip_append (by rw [l2, upTo_len]; omega), List.foldl_append, List.foldl_append]
  have n1 := neg_run ((u.drop q).take (pn - q)) l o []
  rw [l1] at n1
  have n2 := part_run ((u.drop pn).take pS) l o po ((u.drop q).take (pn - q)) (by omega) (by omega)
  rw [l2] at n2
  rw [n1, List.nil_append, n2]
  rfl
theorem run_parts {s u : List UInt8} : ∀ (ps : List Pa) (acc l : List Ed) (o q : Nat), o ≤ s.length → q ≤ u.length → (∀ p, p ∈ ps → PaIn s.length u.length p ∧ 0 < p.s) → ps.Pairwise Before → (∀ p, p ∈ ps → (o : Int) ≤ p.o ∧ (q : Int) ≤ p.n) →
    Gd acc o → Gd l o → acc.filter (flE s) = l.filter (flE s) →
    (joinL ((ps.foldl (gapStep u) (acc, (o : Int), (q : Int))).1 ++ [⟨(ps.foldl (gapStep u) (acc, (o : Int), (q : Int))).2.1, s.length, u.drop (ps.foldl (gapStep u) (acc, (o : Int), (q : Int))).2.2.toNat⟩])).filter (flE s)
      = (joinL (refFin s.length (((u.drop q).zip (exL u.length q ps)).foldl refStep (l, (o : Int), [])))).filter (flE s)
  | [], acc, l, o, q, ho, hq, _, _, _, ha, hl, he => by
    have e1 : ((u.drop q).zip (exL u.length q [])).foldl refStep (l, (o : Int), []) = (l, (o : Int), u.drop q) := by
      have := neg_run (u.drop q) l o []
      rw [List.length_drop] at this
      exact this
    rw [e1]
    show (joinL (acc ++ [⟨(o : Int), (s.length : Int), u.drop ((q : Int)).toNat⟩])).filter _ = (joinL (if (o : Int) < s.length ∨ u.drop q ≠ [] then l ++ [⟨(o : Int), (s.length : Int), u.drop q⟩] else l)).filter _
    rw [Int.toNat_natCast, ha.join rfl]
    by_cases h : (o : Int) < s.length ∨ u.drop q ≠ []
    · rw [if_pos h, hl.join rfl, List.filter_append, List.filter_append, he]
    · have h1 : o = s.length := by omega
      have h2 : u.drop q = [] := Decidable.not_not.1 fun e => h (.inr e)
      rw [if_neg h, hl.1, h2, h1, List.filter_append, he, List.filter_cons, if_neg (by rw [fl_nil]; decide), List.filter_nil, List.append_nil]
  | p :: ps, acc, l, o, q, ho, hq, hin, hpw, hlo, ha, hl, he => by
    obtain ⟨⟨p1, p2, p3, p4, p5⟩, p6⟩ := hin p (.head _)
    obtain ⟨p7, p8⟩ := hlo p (.head _)
    rw [List.pairwise_cons] at hpw
    obtain ⟨po, hpo⟩ : ∃ a : Nat, p.o = a := ⟨p.o.toNat, by omega⟩
    obtain ⟨pn, hpn⟩ : ∃ a : Nat, p.n = a := ⟨p.n.toNat, by omega⟩
    obtain ⟨pS, hps⟩ : ∃ a : Nat, p.s = a := ⟨p.s.toNat, by omega⟩
    have hcut : cutI u (q : Int) (pn : Int) = (u.drop q).take (pn - q) := cut_nat u q pn
    have r0 := ex_step (u := u) (p := p) (ps := ps) (l := l) (o := o) (q := q) hpo hpn hps (by omega) (by omega) (by omega)
    have g0 : (p :: ps).foldl (gapStep u) (acc, (o : Int), (q : Int)) = ps.foldl (gapStep u) (acc ++ [⟨(o : Int), (po : Int), (u.drop q).take (pn - q)⟩], ((po + pS : Nat) : Int), ((pn + pS : Nat) : Int)) := by
      rw [List.foldl_cons]
      congr 1
      unfold gapStep
      rw [hpo, hpn, hps]
      dsimp only
      rw [hcut]
      rfl
    rw [r0, g0]
    refine run_parts ps _ _ (po + pS) (pn + pS) (by omega) (by omega) (fun x hx => hin x (.tail _ hx)) hpw.2 (fun x hx => ?_) (ha.snoc rfl (by show (po : Int) < _; omega)) ?_ ?_
    · obtain ⟨b1, b2⟩ := hpw.1 x hx
      omega
    · split
      · exact hl.snoc rfl (by show (po : Int) < _; omega)
      · exact hl.up (by omega)
    · rw [List.filter_append, he]
      by_cases h : (o : Int) < po ∨ (u.drop q).take (pn - q) ≠ []
      · rw [if_pos h, List.filter_append]
      · have h1 : po = o := by omega
        have h2 : (u.drop q).take (pn - q) = [] := Decidable.not_not.1 fun e => h (.inr e)
        rw [if_neg h, h2, h1, List.filter_cons, if_neg (by rw [fl_nil]; decide), List.filter_nil, List.append_nil]
def Cov (P : List Pa) (i v : Int) : Prop := ∃ p, p ∈ P ∧ p.n ≤ i ∧ i < p.n + p.s ∧ v = p.o + (i - p.n)
def Desc (P : List Pa) (a : Int) (L : List Int) : Prop := ∀ i (h : i < L.length), (∀ v, Cov P (a + i) v → L[i] = v) ∧ ((∀ v, ¬ Cov P (a + i) v) → L[i] = -1)
theorem Desc.append {P : List Pa} {a b : Int} {L M : List Int} (h1 : Desc P a L) (h2 : Desc P b M) (e : b = a + L.length) : Desc P a (L ++ M) := fun i h => by
  by_cases hi : i < L.length
  · rw [List.getElem_append_left hi]; exact h1 i hi
  · rw [List.getElem_append_right (by omega)]
    rw [List.length_append] at h
    have := h2 (i - L.length) (by omega)
    rw [show b + ((i - L.length : Nat) : Int) = a + i from by omega] at this
    exact this
theorem Desc.neg {P : List Pa} {a : Int} {k : Nat} (h : ∀ i, a ≤ i → i < a + k → ∀ v, ¬ Cov P i v) : Desc P a (List.replicate k (-1)) := fun i hi => by
  rw [List.length_replicate] at hi
  refine ⟨fun v hv => absurd hv (h _ (by omega) (by omega) v), fun _ => by simp⟩
theorem Desc.up {P : List Pa} {a o b : Int} (h : ∀ i, a ≤ i → i < a + (b - o) → Cov P i (o + (i - a)) ∧ ∀ v, Cov P i v → v = o + (i - a)) : Desc P a (upTo o b) := fun i hi => by
  rw [upTo_at hi]
  rw [upTo_len] at hi
  obtain ⟨h1, h2⟩ := h (a + i) (by omega) (by omega)
  refine ⟨fun v hv => ?_, fun hn => absurd h1 (hn _)⟩
  rw [h2 v hv]; omega
theorem Desc.iff {P P' : List Pa} {a : Int} {L : List Int} (h : Desc P' a L) (e : ∀ i, a ≤ i → ∀ v, Cov P i v ↔ Cov P' i v) : Desc P a L := fun i hi => by
  obtain ⟨h1, h2⟩ := h i hi
  exact ⟨fun v hv => h1 v ((e _ (by omega) v).1 hv), fun hn => h2 fun v hv => hn v ((e _ (by omega) v).2 hv)⟩
theorem Desc.eq {P : List Pa} {a : Int} {L M : List Int} (h1 : Desc P a L) (h2 : Desc P a M) (e : L.length = M.length) : L = M := by
  refine List.ext_getElem e fun i hi hj => ?_
  by_cases h : ∃ v, Cov P (a + i) v
  · obtain ⟨v, hv⟩ := h
    rw [(h1 i hi).1 v hv, (h2 i hj).1 v hv]
  · have hn : ∀ v, ¬ Cov P (a + i) v := fun v hv => h ⟨v, hv⟩
    rw [(h1 i hi).2 hn, (h2 i hj).2 hn]
theorem cov_cons {p : Pa} {P : List Pa} {i v : Int} : Cov (p :: P) i v ↔ (p.n ≤ i ∧ i < p.n + p.s ∧ v = p.o + (i - p.n)) ∨ Cov P i v := by
  constructor
  · rintro ⟨q, hq, h⟩
    rcases List.mem_cons.1 hq with rfl | hq
    · exact .inl h
    · exact .inr ⟨q, hq, h⟩
  · rintro (h | ⟨q, hq, h⟩)
    · exact ⟨p, .head _, h⟩
    · exact ⟨q, .tail _ hq, h⟩
theorem cov_far {P : List Pa} {m i v : Int} (h : ∀ p, p ∈ P → m ≤ p.n) (hi : i < m) : ¬ Cov P i v := by
  rintro ⟨q, hq, h1, h2, h3⟩
  have := h q hq
  omega
theorem Desc.step {p : Pa} {ps : List Pa} {a m : Int} {L : List Int} {k : Nat} (hk : a + k = p.n) (hs : 0 ≤ p.s) (hm : p.n + p.s ≤ m) (hf : ∀ q, q ∈ ps → m ≤ q.n) {j : Nat} (hj : m = p.n + p.s + j) (hL : Desc ps m L) : Desc (p :: ps) a (List.replicate k (-1) ++ (upTo p.o (p.o + p.s) ++ (List.replicate j (-1) ++ L))) := by
  refine Desc.append (b := p.n) (Desc.neg fun i h1 h2 v hv => ?_) (Desc.append (b := p.n + p.s) (Desc.up fun i h1 h2 => ?_) (Desc.append (b := m) (Desc.neg fun i h1 h2 v hv => ?_) (hL.iff fun i hi v => ?_) (by rw [List.length_replicate]; omega)) (by rw [upTo_len]; omega)) (by rw [List.length_replicate]; omega)
  · rcases cov_cons.1 hv with h | h
    · omega
    · exact cov_far hf (by omega) h
  · refine ⟨cov_cons.2 (.inl ⟨by omega, by omega, rfl⟩), fun v hv => ?_⟩
    rcases cov_cons.1 hv with h | h
    · exact h.2.2
    · exact absurd h (cov_far hf (by omega))
  · rcases cov_cons.1 hv with h | h
    · omega
    · exact cov_far hf (by omega) h
  · rw [cov_cons]
    exact ⟨fun h => h.resolve_left (by omega), .inr⟩
theorem src_len {n : Int} : ∀ {es : List Ed} {q : Int}, 0 ≤ q → q ≤ n → sound1 n q es = 0 → ((srcL n q es).length : Int) = n - q + sumG es
  | [], q, h0, h1, _ => by rw [srcL, upTo_len]; simp [sumG]; omega
  | e :: es, q, h0, h1, hs => by
    obtain ⟨a1, a2, a3, a4, a5⟩ := sound1_cons hs
    have ih := src_len (n := n) (es := es) (q := e.t) (by omega) a3 a5
    have hg : sumG (e :: es) = growE e + sumG es := by simp [sumG]
    have hge : growE e = (e.x.length : Int) - (e.t - e.f) := rfl
    rw [srcL, List.length_append, List.length_append, upTo_len, List.length_replicate]
    omega
theorem src_desc {n : Int} : ∀ {es : List Ed} {q sh : Int}, 0 ≤ q → q ≤ n → 0 ≤ q + sh → sound1 n q es = 0 → Desc (keptL n q sh es) (q + sh) (srcL n q es)
  | [], q, sh, h0, h1, h2, _ => by
    have := Desc.step (p := ⟨q, q + sh, n - q⟩) (ps := []) (a := q + sh) (m := q + sh + (n - q)) (L := []) (k := 0) (j := 0) (by show q + sh + 0 = q + sh; omega) (by show 0 ≤ n - q; omega) (by show q + sh + (n - q) ≤ _; omega) (fun q hq => absurd hq (by simp)) (by show _ = q + sh + (n - q) + 0; omega) (fun i h => absurd h (by simp))
    rw [srcL, keptL]
    have e2 : q + (n - q) = n := by omega
    simpa [e2] using (show Desc [⟨q, q + sh, n - q⟩] (q + sh) (List.replicate 0 (-1) ++ (upTo q (q + (n - q)) ++ (List.replicate 0 (-1) ++ []))) from this)
  | e :: es, q, sh, h0, h1, h2, hs => by
    obtain ⟨a1, a2, a3, a4, a5⟩ := sound1_cons hs
    have hge : growE e = (e.x.length : Int) - (e.t - e.f) := rfl
    have ih := src_desc (n := n) (es := es) (q := e.t) (sh := sh + growE e) (by omega) a3 (by omega) a5
    have hk := kept_in (n := n) (es := es) (old := e.t) (sh := sh + growE e) (by omega) a3 (by omega) a5
    have := Desc.step (p := ⟨q, q + sh, e.f - q⟩) (ps := keptL n e.t (sh + growE e) es) (a := q + sh) (m := e.t + (sh + growE e)) (L := srcL n e.t es) (k := 0) (j := e.x.length) (by show q + sh + 0 = q + sh; omega) (by show 0 ≤ e.f - q; omega) (by show q + sh + (e.f - q) ≤ _; omega) (fun x hx => (hk x hx).2.2) (by show _ = q + sh + (e.f - q) + _; omega) ih
    rw [srcL, keptL]
    have e2 : q + (e.f - q) = e.f := by omega
    simpa [e2] using (show Desc (⟨q, q + sh, e.f - q⟩ :: keptL n e.t (sh + growE e) es) (q + sh) (List.replicate 0 (-1) ++ (upTo q (q + (e.f - q)) ++ (List.replicate e.x.length (-1) ++ srcL n e.t es))) from this)
theorem ex_desc {z : Int} {len : Nat} : ∀ {ps : List Pa} {q : Nat}, q ≤ len → (∀ p, p ∈ ps → PaIn z len p) → ps.Pairwise Before → (∀ p, p ∈ ps → (q : Int) ≤ p.n) → Desc ps q (exL len q ps) ∧ (exL len q ps).length = len - q
  | [], q, hq, _, _, _ => ⟨Desc.neg (fun i _ _ v hv => by obtain ⟨p, hp, _⟩ := hv; exact absurd hp (by simp)), List.length_replicate⟩
  | p :: ps, q, hq, hin, hpw, hlo => by
    obtain ⟨p1, p2, p3, p4, p5⟩ := hin p (.head _)
    have p8 := hlo p (.head _)
    rw [List.pairwise_cons] at hpw
    obtain ⟨i1, i2⟩ := ex_desc (z := z) (len := len) (ps := ps) (q := (p.n + p.s).toNat) (by omega) (fun x hx => hin x (.tail _ hx)) hpw.2 (fun x hx => by have := (hpw.1 x hx).2; omega)
    have := Desc.step (p := p) (ps := ps) (a := q) (m := (p.n + p.s).toNat) (L := exL len (p.n + p.s).toNat ps) (k := p.n.toNat - q) (j := 0) (by omega) p3 (by omega) (fun x hx => by have := (hpw.1 x hx).2; omega) (by omega) i1
    refine ⟨by rw [exL]; simpa using this, ?_⟩
    rw [exL, List.length_append, List.length_append, List.length_replicate, upTo_len, i2]
    omega
theorem cov_both {A B : List Pa} {i v : Int} : Cov (bothL A B) i v ↔ ∃ j, Cov B i j ∧ Cov A j v := by
  constructor
  · rintro ⟨r, hr, h1, h2, h3⟩
    obtain ⟨p, hp, hb⟩ := List.mem_flatMap.1 hr
    obtain ⟨q, hq, hk⟩ := bothIn_mem hb
    obtain ⟨h4, rfl⟩ := pick2_some hk
    simp only at h1 h2 h3
    exact ⟨q.o + (i - q.n), ⟨q, hq, by omega, by omega, rfl⟩, ⟨p, hp, by omega, by omega, by omega⟩⟩
  · rintro ⟨j, ⟨q, hq, g1, g2, g3⟩, ⟨p, hp, k1, k2, k3⟩⟩
    have hlt : max p.n q.o < min (p.n + p.s) (q.o + q.s) := by omega
    refine ⟨⟨p.o + max p.n q.o - p.n, q.n + max p.n q.o - q.o, min (p.n + p.s) (q.o + q.s) - max p.n q.o⟩, List.mem_flatMap.2 ⟨p, hp, List.mem_filterMap.2 ⟨q, hq, by unfold pick2; rw [if_pos hlt]⟩⟩, ?_, ?_, ?_⟩ <;> simp only <;> omega
theorem comp_desc {z m k : Int} {A B : List Pa} {f g : List Int} (hf : Desc A 0 f) (hg : Desc B 0 g) (hm : (f.length : Int) = m) (hB : ∀ q, q ∈ B → PaIn m k q) : Desc (bothL A B) 0 (compS f g) := fun i hi => by
  have hi2 : i < g.length := by unfold compS at hi; rwa [List.length_map] at hi
  have e : (compS f g)[i] = if 0 ≤ g[i] then f.getD g[i].toNat (-1) else -1 := List.getElem_map _
  rw [e]
  have bnd : ∀ j, Cov B (0 + (i : Int)) j → 0 ≤ j ∧ j < m := by
    rintro j ⟨q, hq, h1, h2, h3⟩
    obtain ⟨b1, b2, b3, b4, b5⟩ := hB q hq
    omega
  have get : ∀ j, 0 ≤ j → j < m → ∃ (h : j.toNat < f.length), f.getD j.toNat (-1) = f[j.toNat] := fun j h0 h1 => by
    have h : j.toNat < f.length := by omega
    exact ⟨h, by rw [List.getD_eq_getElem?_getD, List.getElem?_eq_getElem h]; rfl⟩
  constructor
  · intro v hv
    obtain ⟨j, hj, hv⟩ := cov_both.1 hv
    obtain ⟨b1, b2⟩ := bnd j hj
    rw [(hg i hi2).1 j hj, if_pos b1]
    obtain ⟨h, h2⟩ := get j b1 b2
    rw [h2]
    refine (hf j.toNat h).1 v ?_
    rwa [show (0 : Int) + (j.toNat : Int) = j from by omega]
  · intro hn
    by_cases h : ∃ j, Cov B (0 + (i : Int)) j
    · obtain ⟨j, hj⟩ := h
      obtain ⟨b1, b2⟩ := bnd j hj
      rw [(hg i hi2).1 j hj, if_pos b1]
      obtain ⟨h, h2⟩ := get j b1 b2
      rw [h2]
      refine (hf j.toNat h).2 fun v hv => hn v (cov_both.2 ⟨j, hj, ?_⟩)
      rwa [show (0 : Int) + (j.toNat : Int) = j from by omega] at hv
    · rw [(hg i hi2).2 fun j hj => h ⟨j, hj⟩, if_neg (by decide)]
theorem compose_src {s t u : List UInt8} {a b : List Ed} (h1 : sound1 s.length 0 a = 0) (ht : t = applyGo s 0 a) (h2 : sound1 t.length 0 b = 0) (hu : u = applyGo t 0 b) :
    composeL s t u a b = normE s (refFin s.length (refSt u (compS (srcL s.length 0 a) (srcL t.length 0 b)))) := by
  obtain ⟨k1, k2, k3, k4⟩ := both_ok h1 ht h2 hu
  have e1 := (apply_sum (s := s) (q := 0) (Nat.zero_le _) h1).1
  have e2 := (apply_sum (s := t) (q := 0) (Nat.zero_le _) h2).1
  rw [← ht] at e1; rw [← hu] at e2
  have d1 := src_desc (sh := 0) (Int.le_refl 0) (by omega) (by omega) h1
  have d2 := src_desc (sh := 0) (Int.le_refl 0) (by omega) (by omega) h2
  have n1 := src_len (Int.le_refl 0) (by omega) h1
  have n2 := src_len (Int.le_refl 0) (by omega) h2
  rw [show (0 : Int) + 0 = 0 from rfl] at d1 d2
  have d3 := comp_desc (z := s.length) d1 d2 (m := t.length) (k := u.length) (by omega) k2
  obtain ⟨d4, n4⟩ := ex_desc (z := s.length) (len := u.length) (ps := bothL (keptL s.length 0 0 a) (keptL t.length 0 0 b)) (q := 0) (Nat.zero_le _) (fun p hp => (k3 p hp).1) k4 (fun p hp => (k3 p hp).1.n0)
  have ec : compS (srcL s.length 0 a) (srcL t.length 0 b) = exL u.length 0 (bothL (keptL s.length 0 0 a) (keptL t.length 0 0 b)) := d3.eq d4 (by rw [n4]; unfold compS; rw [List.length_map]; omega)
  have := run_parts (s := s) (u := u) (bothL (keptL s.length 0 0 a) (keptL t.length 0 0 b)) [] [] 0 0 (Nat.zero_le _) (Nat.zero_le _) k3 k4 (fun p hp => ⟨(k3 p hp).1.o0, (k3 p hp).1.n0⟩) ⟨rfl, fun y hy => by cases hy⟩ ⟨rfl, fun y hy => by cases hy⟩ rfl
  unfold composeL refSt
  rw [ec]
  exact this
theorem run_in {n : Nat} {u : List UInt8} : ∀ (ps : List Pa) (l : List Ed) (o q : Nat), o ≤ n → q ≤ u.length → (∀ p, p ∈ ps → PaIn n u.length p ∧ 0 < p.s) → ps.Pairwise Before → (∀ p, p ∈ ps → (o : Int) ≤ p.o ∧ (q : Int) ≤ p.n) → (∀ e, e ∈ l → EdIn n e) →
    ∀ e, e ∈ refFin n (((u.drop q).zip (exL u.length q ps)).foldl refStep (l, (o : Int), [])) → EdIn n e
  | [], l, o, q, ho, hq, _, _, _, ha => by
    have e1 : ((u.drop q).zip (exL u.length q [])).foldl refStep (l, (o : Int), []) = (l, (o : Int), u.drop q) := by
      have := neg_run (u.drop q) l o []
      rw [List.length_drop] at this
      exact this
    rw [e1]
    unfold refFin
    split
    · exact mem_snoc_all ha ⟨by show (0 : Int) ≤ o; omega, by show (o : Int) ≤ n; omega, Int.le_refl _⟩
    · exact ha
  | p :: ps, l, o, q, ho, hq, hin, hpw, hlo, ha => by
    obtain ⟨⟨p1, p2, p3, p4, p5⟩, p6⟩ := hin p (.head _)
    obtain ⟨p7, p8⟩ := hlo p (.head _)
    rw [List.pairwise_cons] at hpw
    obtain ⟨po, hpo⟩ : ∃ a : Nat, p.o = a := ⟨p.o.toNat, by omega⟩
    obtain ⟨pn, hpn⟩ : ∃ a : Nat, p.n = a := ⟨p.n.toNat, by omega⟩
    obtain ⟨pS, hps⟩ : ∃ a : Nat, p.s = a := ⟨p.s.toNat, by omega⟩
    have r0 := ex_step (u := u) (p := p) (ps := ps) (l := l) (o := o) (q := q) hpo hpn hps (by omega) (by omega) (by omega)
    rw [r0]
    refine run_in ps _ (po + pS) (pn + pS) (by omega) (by omega) (fun x hx => hin x (.tail _ hx)) hpw.2 (fun x hx => ?_) ?_
    · obtain ⟨b1, b2⟩ := hpw.1 x hx
      omega
    · split
      · exact mem_snoc_all ha ⟨by show (0 : Int) ≤ o; omega, by show (o : Int) ≤ po; omega, by show (po : Int) ≤ n; omega⟩
      · exact ha
theorem ref_in {s t u : List UInt8} {a b : List Ed} (h1 : sound1 s.length 0 a = 0) (ht : t = applyGo s 0 a) (h2 : sound1 t.length 0 b = 0) (hu : u = applyGo t 0 b) :
    (compS (srcL s.length 0 a) (srcL t.length 0 b)).length = u.length ∧ ∀ e, e ∈ refFin s.length (refSt u (compS (srcL s.length 0 a) (srcL t.length 0 b))) → EdIn s.length e := by
  obtain ⟨k1, k2, k3, k4⟩ := both_ok h1 ht h2 hu
  have e1 := (apply_sum (s := s) (q := 0) (Nat.zero_le _) h1).1
  have e2 := (apply_sum (s := t) (q := 0) (Nat.zero_le _) h2).1
  rw [← ht] at e1; rw [← hu] at e2
  have d1 := src_desc (sh := 0) (Int.le_refl 0) (by omega) (by omega) h1
  have d2 := src_desc (sh := 0) (Int.le_refl 0) (by omega) (by omega) h2
  have n1 := src_len (Int.le_refl 0) (by omega) h1
  have n2 := src_len (Int.le_refl 0) (by omega) h2
  rw [show (0 : Int) + 0 = 0 from rfl] at d1 d2
  have d3 := comp_desc (z := s.length) d1 d2 (m := t.length) (k := u.length) (by omega) k2
  obtain ⟨d4, n4⟩ := ex_desc (z := s.length) (len := u.length) (ps := bothL (keptL s.length 0 0 a) (keptL t.length 0 0 b)) (q := 0) (Nat.zero_le _) (fun p hp => (k3 p hp).1) k4 (fun p hp => (k3 p hp).1.n0)
  have ec : compS (srcL s.length 0 a) (srcL t.length 0 b) = exL u.length 0 (bothL (keptL s.length 0 0 a) (keptL t.length 0 0 b)) := d3.eq d4 (by rw [n4]; unfold compS; rw [List.length_map]; omega)
  rw [ec]
  exact ⟨by rw [n4]; omega, run_in (n := s.length) (u := u) _ [] 0 0 (Nat.zero_le _) (Nat.zero_le _) k3 k4 (fun p hp => ⟨(k3 p hp).1.o0, (k3 p hp).1.n0⟩) (fun e he => absurd he (by simp))⟩
theorem src_rng {n : Int} : ∀ {es : List Ed} {q : Int}, 0 ≤ q → sound1 n q es = 0 → ∀ g, g ∈ srcL n q es → g = -1 ∨ 0 ≤ g ∧ g < n
  | [], q, h0, _, g, hg => by
    rw [srcL] at hg
    obtain ⟨i, hi, rfl⟩ := List.getElem_of_mem hg
    rw [upTo_at hi]; rw [upTo_len] at hi; omega
  | e :: es, q, h0, hs, g, hg => by
    obtain ⟨a1, a2, a3, a4, a5⟩ := sound1_cons hs
    rw [srcL] at hg
    rcases List.mem_append.1 hg with hg | hg
    · obtain ⟨i, hi, rfl⟩ := List.getElem_of_mem hg
      rw [upTo_at hi]; rw [upTo_len] at hi; omega
    · rcases List.mem_append.1 hg with hg | hg
      · exact .inl (List.eq_of_mem_replicate hg)
      · exact src_rng (by omega) a5 g hg
def endS (n : Int) (es : List Ed) (k : Nat) : Int := if h : k < es.length then es[k].f else n
def remS (n : Int) (es : List Ed) (k : Nat) : List Int := if h : k < es.length then List.replicate es[k].x.length (-1) ++ srcL n es[k].t (es.drop (k + 1)) else []
theorem srcL_at {n q : Int} {es : List Ed} {k : Nat} (h : k ≤ es.length) : srcL n q (es.drop k) = upTo q (endS n es k) ++ remS n es k := by
  unfold endS remS
  by_cases hk : k < es.length
  · rw [dif_pos hk, dif_pos hk, List.drop_eq_getElem_cons hk, srcL]
  · rw [dif_neg hk, dif_neg hk, List.drop_of_length_le (by omega), srcL, List.append_nil]
theorem ref_fold {u : List UInt8} {c : List Int} (hc : c.length = u.length) {k : Nat} (hk : k < u.length) : ((u.zip c).take (k + 1)).foldl refStep ([], 0, []) = refStep (((u.zip c).take k).foldl refStep ([], 0, [])) (u[k], c[k]'(by omega)) := by
  rw [List.take_succ_eq_append_getElem (by rw [List.length_zip]; omega), List.foldl_append, List.getElem_zip]; rfl
theorem ref_all {u : List UInt8} {c : List Int} (hc : c.length = u.length) : ((u.zip c).take u.length).foldl refStep ([], 0, []) = refSt u c := by
  rw [List.take_of_length_le (by rw [List.length_zip]; omega)]; rfl
theorem ref_bound {u : List UInt8} {c : List Int} {n : Int} (hn : 0 ≤ n) (hr : ∀ g, g ∈ c → g < n) : ∀ k, (((u.zip c).take k).foldl refStep ([], 0, [])).1.length ≤ k ∧ txs (((u.zip c).take k).foldl refStep ([], 0, [])).1 + (((u.zip c).take k).foldl refStep ([], 0, [])).2.2.length ≤ k ∧ 0 ≤ (((u.zip c).take k).foldl refStep ([], 0, [])).2.1 ∧ (((u.zip c).take k).foldl refStep ([], 0, [])).2.1 ≤ n
  | 0 => ⟨Nat.zero_le _, Nat.le_refl _, Int.le_refl _, hn⟩
  | k + 1 => by
    obtain ⟨h1, h2, h3, h4⟩ := ref_bound (u := u) (c := c) hn hr k
    by_cases hk : k < (u.zip c).length
    · rw [List.take_succ_eq_append_getElem hk, List.foldl_append]
      have hm := hr _ (List.of_mem_zip (a := (u.zip c)[k].1) (b := (u.zip c)[k].2) (List.getElem_mem hk)).2
      show (refStep _ (u.zip c)[k]).1.length ≤ _ ∧ txs (refStep _ (u.zip c)[k]).1 + (refStep _ (u.zip c)[k]).2.2.length ≤ _ ∧ 0 ≤ (refStep _ (u.zip c)[k]).2.1 ∧ (refStep _ (u.zip c)[k]).2.1 ≤ n
      generalize ((u.zip c).take k).foldl refStep ([], 0, []) = st at *
      generalize (u.zip c)[k] = p at *
      unfold refStep
      split
      · refine ⟨by show st.1.length ≤ _; omega, by show txs st.1 + (st.2.2 ++ [p.1]).length ≤ _; rw [List.length_append, List.length_singleton]; omega, h3, h4⟩
      · refine ⟨?_, ?_, by show (0 : Int) ≤ p.2 + 1; omega, by show p.2 + 1 ≤ n; omega⟩
        · show (if _ then _ else _ : List Ed).length ≤ _
          split
          · rw [List.length_append, List.length_singleton]; omega
          · omega
        · show txs (if _ then _ else _ : List Ed) + 0 ≤ _
          split
          · rw [txs_snoc]; show txs st.1 + st.2.2.length + 0 ≤ _; omega
          · omega
    · rw [List.take_of_length_le (by omega)]
      rw [List.take_of_length_le (by omega)] at h1 h2 h3 h4
      exact ⟨by omega, by omega, h3, h4⟩
theorem fin_bound {n : Int} {R : List Ed × Int × List UInt8} {m : Nat} (h1 : R.1.length ≤ m) (h2 : txs R.1 + R.2.2.length ≤ m) : (refFin n R).length ≤ m + 1 ∧ txs (refFin n R) ≤ m := by
  unfold refFin
  split
  · rw [List.length_append, List.length_singleton, txs_snoc]
    exact ⟨by omega, h2⟩
  · exact ⟨by omega, by omega⟩
theorem comp_at {f g : List Int} {k : Nat} (hk : k < g.length) : (compS f g).getD k (-1) = if 0 ≤ g[k] then f.getD g[k].toNat (-1) else -1 := by
  unfold compS
  rw [List.getD_eq_getElem?_getD, List.getElem?_map, List.getElem?_eq_getElem hk]; rfl
theorem comp_end {f g : List Int} {k : Nat} (hk : g.length ≤ k) : (compS f g).getD k (-1) = -1 := by
  unfold compS
  rw [List.getD_eq_getElem?_getD, List.getElem?_map, List.getElem?_eq_none hk]; rfl
theorem comp_rng {n : Int} {f g : List Int} (hf : ∀ x, x ∈ f → x = -1 ∨ 0 ≤ x ∧ x < n) : ∀ x, x ∈ compS f g → x = -1 ∨ 0 ≤ x ∧ x < n := fun x hx => by
  obtain ⟨j, _, rfl⟩ := List.mem_map.1 hx
  show (if 0 ≤ j then f.getD j.toNat (-1) else -1) = -1 ∨ 0 ≤ (if 0 ≤ j then f.getD j.toNat (-1) else -1) ∧ (if 0 ≤ j then f.getD j.toNat (-1) else -1) < n
  split
  · by_cases h : j.toNat < f.length
    · rw [List.getD_eq_getElem?_getD, List.getElem?_eq_getElem h]; exact hf _ (List.getElem_mem h)
    · rw [List.getD_eq_getElem?_getD, List.getElem?_eq_none (by omega)]; exact .inl rfl
  · exact .inl rfl
structure SrX where
  k : Nat
  q : Int
  l : List Int
  oa : Option Addr
  c : Nat
structure CmX where
  k : Nat
  st : List Ed × Int × List UInt8
  oa : Option Addr
  c : Nat
theorem endS_in {n q : Int} {es : List Ed} {k : Nat} (h : sound1 n q (es.drop k) = 0) (hq : q ≤ n) : q ≤ endS n es k ∧ endS n es k ≤ n := by
  unfold endS
  split
  · rename_i hk
    rw [List.drop_eq_getElem_cons hk] at h
    have := sound1_cons h
    omega
  · exact ⟨hq, Int.le_refl _⟩
theorem refStep_neg {st : List Ed × Int × List UInt8} {b : UInt8} {c : Int} (h : c < 0) : refStep st (b, c) = (st.1, st.2.1, st.2.2 ++ [b]) := if_pos h
theorem refStep_pos {st : List Ed × Int × List UInt8} {b : UInt8} {c : Int} (h : ¬ c < 0) : refStep st (b, c) = (if st.2.1 < c ∨ st.2.2 ≠ [] then st.1 ++ [⟨st.2.1, c, st.2.2⟩] else st.1, c + 1, []) := if_neg h
end Go.GL

namespace Go.Proofs.Ytkdeopioelocnaa
open Go.GL
set_option linter.unusedVariables false
theorem rb_bs22_1_0 (x0 : Int) : BuildSV Try.prog 22 3 1 [(0, .int .i64 x0)] [.int .i64 x0] := fun w => by kernel_rfl
theorem rb_ni22 : noInt Try.prog 22 = true := by kernel_rfl
theorem rb_te3 : tyElem Try.prog 3 1 8 = true := by kernel_rfl
theorem rb_tf78_0 : fieldOff Try.prog 78 0 0 = true := by kernel_rfl
theorem rb_tf78_1 : fieldOff Try.prog 78 1 1 = true := by kernel_rfl
theorem rb_tf78_2 : fieldOff Try.prog 78 2 2 = true := by kernel_rfl
theorem rb_tl22 : tySlice Try.prog 22 3 = true := by kernel_rfl
theorem rb_tl26 : tySlice Try.prog 26 78 = true := by kernel_rfl
theorem rb_ts3 : tyScalar Try.prog 3 = true := by kernel_rfl
theorem rb_ts9 : tyScalar Try.prog 9 = true := by kernel_rfl
theorem rb_tstr9 : tyStr Try.prog 9 = true := by kernel_rfl
theorem rb_tz78 : tySize Try.prog 78 3 = true := by kernel_rfl
set_option maxHeartbeats 1000000 in
theorem sources_spec {size : Int} {es : List Ed} {oa : Option Addr} {ca : Nat} {M : List HP} {F : List Fact} (ha : ArrF oa (edC es) ∈ F) (hs : sound1 size 0 es = 0) (hs0 : 0 ≤ size) (hsm : size ≤ 1099511627776) (hel : es.length ≤ 1099511627776) (hT : (srcL size 0 es).length ≤ 1099511627776) : Ctr Try.prog 83 [I size, .slice oa es.length ca] M F (Option Addr × Nat) (fun z => .slice z.1 (srcL size 0 es).length z.2) (fun _ => M) (fun z => ArrF z.1 (ints (srcL size 0 es)) :: F) := by
  refine Ctr.body Try.func83 rfl rfl ?_
  refine TR.seq ?_
  refine TR.region ?_
  refine RL.assign rfl rfl rfl ?_
  refine RL.nil ?_
  refine NX.seq ?_
  refine TR.seq ?_
  refine TR.region ?_
  refine RL.assign rfl rfl rfl ?_
  refine RL.weak (fun w hw => OwnSl.nil_new 3 1 hw) ?_
  refine RL.nil ?_
  refine NX.seq ?_
  refine TR.seq ?_
  refine TR.region ?_
  refine RL.assign rfl rfl rfl ?_
  refine RL.nil ?_
  refine NX.seq ?_
  refine TR.seq ?_
  refine TR.seq ?_
  refine TR.region ?_
  refine RL.assign rfl rfl rfl ?_
  refine RL.nil ?_
  refine NX.seq ?_
  refine TR.block ?_
  refine TR.loopP (ι := SrX) (fun x => x.k ≤ es.length + 1 ∧ ((x.k ≤ es.length ∧ 0 ≤ x.q ∧ x.q ≤ size ∧ sound1 size x.q (es.drop x.k) = 0 ∧ x.l ++ srcL size x.q (es.drop x.k) = (srcL size 0 es)) ∨ (x.k = es.length + 1 ∧ x.l = (srcL size 0 es)))) (fun x => [(0, I size), (1, .slice oa es.length ca), (5, .slice x.oa x.l.length x.c), (6, I x.q), (7, I (x.k : Nat))]) (fun x => OwnSl 3 1 x.oa x.l.length x.c (ints x.l) :: M) (fun x => F) (fun x => es.length + 1 - x.k) ⟨0, 0, [], none, 0⟩ ⟨Nat.zero_le _, .inl ⟨Nat.zero_le _, Int.le_refl _, hs0, hs, rfl⟩⟩ ⟨rfl, rfl, rfl, rfl, rfl, trivial⟩ (fun w hw => (hw.to 1 [0] 0 [] rfl)) (fun x hx => ?_)
  refine TR.seq ?_
  refine TR.seq ?_
  refine TR.region ?_
  refine RL.move rfl rfl rfl ?_
  refine RL.move rfl rfl rfl ?_
  refine RL.lenSlice rfl rb_tl26 rfl rfl ?_
  refine RL.bin rfl rfl rfl BinV.leq rfl ?_
  refine RL.nil ?_
  refine NX.seq ?_
  refine TR.cond rfl (fun h1 => ?_) (fun h1 => ?_)
  · skip
    have hkl : x.k ≤ es.length := by have := of_decide_eq_true h1; omega
    obtain ⟨g0, g1, g2, g3, g4⟩ : x.k ≤ es.length ∧ 0 ≤ x.q ∧ x.q ≤ size ∧ sound1 size x.q (es.drop x.k) = 0 ∧ x.l ++ srcL size x.q (es.drop x.k) = srcL size 0 es := by
      rcases hx.2 with h | h
      · exact h
      · omega
    have hat := srcL_at (n := size) (q := x.q) hkl
    refine TR.skip ?_
    refine NX.seq ?_
    refine TR.seq ?_
    refine TR.block ?_
    refine TR.seq ?_
    refine TR.region ?_
    refine RL.move rfl rfl rfl ?_
    refine RL.assign rfl rfl rfl ?_
    refine RL.nil ?_
    refine NX.seq ?_
    refine TR.cut (ι := Unit) (fun _ => [(0, I size), (1, .slice oa es.length ca), (5, .slice x.oa x.l.length x.c), (6, I x.q), (7, I (x.k : Nat)), (8, I (endS size es x.k))]) (fun _ => OwnSl 3 1 x.oa x.l.length x.c (ints x.l) :: M) (fun _ => F) ?_ (fun _ => ?_)
    · skip
      refine TR.seq ?_
      refine TR.region ?_
      refine RL.move rfl rfl rfl ?_
      refine RL.move rfl rfl rfl ?_
      refine RL.lenSlice rfl rb_tl26 rfl rfl ?_
      refine RL.bin rfl rfl rfl BinV.lss rfl ?_
      refine RL.nil ?_
      refine NX.seq ?_
      refine TR.cond rfl (fun h2 => ?_) (fun h2 => ?_)
      · skip
        have hk : x.k < es.length := by have := of_decide_eq_true h2; omega
        refine TR.openP (open_arr (oa := oa) (xs := edC es) ha (fun e => by have h8 := edC_length es; rw [e] at h8; simp at h8; omega)) (fun pe hpe => ?_)
        refine TR.region ?_
        refine RL.move rfl rfl rfl ?_
        refine RL.move rfl rfl rfl ?_
        refine RL.indexAddr rfl rb_tl26 rb_tz78 (congrArg (fun a => some (Value.slice a _ _)) hpe) rfl (by omega) (by omega) rfl ?_
        refine RL.fieldAddr rfl rb_tf78_0 rfl rfl ?_
        refine RL.loadF rfl rfl (fun w K hF => run_loadCell1 (j := (((x.k : Nat) : Int)).toNat * 3 + 0) (v := I es[x.k].f) (hF (CellsF pe.1 pe.2 (edC es)) (.head _)) rb_ts3 (by rw [Int.toNat_natCast]; exact edC_at hk rfl)) rfl ?_
        refine RL.assign rfl rfl rfl ?_
        refine RL.nil ?_
        exact NX.meet () ⟨rfl, rfl, rfl, rfl, rfl, congrArg (fun z => some (I z)) (by unfold endS; rw [dif_pos hk]), trivial⟩ (fun w hw => (hw.to 1 [0] 1 [] rfl))
      · skip
        have hk : ¬ x.k < es.length := by have := of_decide_eq_false h2; omega
        refine TR.skip ?_
        exact NX.meet () ⟨rfl, rfl, rfl, rfl, rfl, congrArg (fun z => some (I z)) (by unfold endS; rw [dif_neg hk]), trivial⟩ (fun w hw => (hw.to 1 [0] 0 [] rfl))
    refine TR.seq ?_
    refine TR.block ?_
    have hes := (endS_in g3 g2).2
    refine TR.loopP (ι := SrX) (fun y => 0 ≤ y.q ∧ y.q ≤ endS size es x.k ∧ y.l ++ (upTo y.q (endS size es x.k) ++ remS size es x.k) = (srcL size 0 es)) (fun y => [(0, I size), (1, .slice oa es.length ca), (5, .slice y.oa y.l.length y.c), (6, I y.q), (7, I (x.k : Nat)), (8, I (endS size es x.k))]) (fun y => OwnSl 3 1 y.oa y.l.length y.c (ints y.l) :: M) (fun y => F) (fun y => (endS size es x.k - y.q).toNat) x ⟨g1, (endS_in g3 g2).1, by show x.l ++ _ = _; rw [← hat]; exact g4⟩ ⟨rfl, rfl, rfl, rfl, rfl, rfl, trivial⟩ (fun w hw => (hw.to 1 [0] 0 [] rfl)) (fun y hy => ?_)
    refine TR.seq ?_
    refine TR.seq ?_
    refine TR.region ?_
    refine RL.move rfl rfl rfl ?_
    refine RL.move rfl rfl rfl ?_
    refine RL.bin rfl rfl rfl BinV.lss rfl ?_
    refine RL.nil ?_
    refine NX.seq ?_
    refine TR.cond rfl (fun h3 => ?_) (fun h3 => ?_)
    · skip
      have hlt : y.q < endS size es x.k := of_decide_eq_true h3
      have hyl : y.l.length ≤ 1099511627776 := by have h9 := congrArg List.length hy.2.2; rw [List.length_append] at h9; omega
      refine TR.skip ?_
      refine NX.seq ?_
      refine TR.block ?_
      refine TR.seq ?_
      refine TR.region ?_
      refine RL.move rfl rfl rfl ?_
      refine RL.move rfl rfl rfl ?_
      refine RL.buildSlice rfl rfl (rb_bs22_1_0 _) rfl (fun b4 => ?_)
      refine RL.ofGV rfl rfl (GV.append (j := 1) rb_tl22 rb_ni22 rb_te3 rfl rfl rfl (src_box (i := 0) rfl rfl rfl) (by omega) (by omega)) (fun z => ?_)
      refine RL.assign rfl rfl rfl ?_
      refine RL.nil ?_
      refine NX.seq ?_
      refine TR.region ?_
      refine RL.move rfl rfl rfl ?_
      refine RL.bin rfl rfl rfl (BinV.add _ rfl (by omega) (by omega)) rfl ?_
      refine RL.assign rfl rfl rfl ?_
      refine RL.nil ?_
      refine NX.off ?_
      refine NX.roundP ⟨y.k, y.q + 1, y.l ++ [y.q], z.1, z.2⟩ ⟨by show 0 ≤ y.q + 1; omega, by show y.q + 1 ≤ _; omega, by show (y.l ++ [y.q]) ++ (upTo (y.q + 1) _ ++ _) = _; rw [← hy.2.2, upTo_cons (show y.q < endS size es x.k from hlt), List.append_assoc]; rfl⟩ (by show (endS size es x.k - (y.q + 1)).toNat < (endS size es x.k - y.q).toNat; omega) ⟨rfl, rfl, ?_, rfl, rfl, rfl, trivial⟩ (fun w hw => ?_)
      · show some (Value.slice z.1 (y.l.length + 1) z.2) = some (Value.slice z.1 (y.l ++ [_]).length z.2)
        rw [List.length_append]; rfl
      · have h9 := (hw.to 2 [1] 0 [] rfl)
        show St w (OwnSl 3 1 z.1 (y.l ++ [_]).length z.2 (ints (y.l ++ [_])) :: M) _
        rw [List.length_append, ints_append2]
        exact h9
    · skip
      have hye : y.q = endS size es x.k := by have := of_decide_eq_false h3; have := hy.2.1; omega
      have hyr := hy.2.2
      rw [hye] at hyr
      have hyl : y.l.length ≤ 1099511627776 := by have h9 := congrArg List.length hyr; rw [List.length_append] at h9; omega
      refine TR.exit ?_
      refine NX.exitThen ?_
      refine NX.exitThen ?_
      refine NX.exitHere ?_
      refine NX.seq ?_
      refine TR.seq ?_
      refine TR.region ?_
      refine RL.move rfl rfl rfl ?_
      refine RL.move rfl rfl rfl ?_
      refine RL.lenSlice rfl rb_tl26 rfl rfl ?_
      refine RL.bin rfl rfl rfl BinV.lss rfl ?_
      refine RL.nil ?_
      refine NX.seq ?_
      refine TR.cond rfl (fun h6 => ?_) (fun h6 => ?_)
      · skip
        have hk : x.k < es.length := by have := of_decide_eq_true h6; omega
        obtain ⟨a1, a2, a3, a4, g5⟩ : 0 ≤ es[x.k].f ∧ es[x.k].f ≤ es[x.k].t ∧ es[x.k].t ≤ size ∧ x.q ≤ es[x.k].f ∧ sound1 size es[x.k].t (es.drop (x.k + 1)) = 0 := by rw [List.drop_eq_getElem_cons hk] at g3; exact sound1_cons g3
        have hrem : remS size es x.k = List.replicate es[x.k].x.length (-1) ++ srcL size es[x.k].t (es.drop (x.k + 1)) := by unfold remS; rw [dif_pos hk]
        have hxl : es[x.k].x.length ≤ 1099511627776 := by have h9 := congrArg List.length hyr; rw [hrem] at h9; simp only [List.length_append, List.length_replicate] at h9; omega
        refine TR.openP (open_arr (oa := oa) (xs := edC es) ha (fun e => by have h8 := edC_length es; rw [e] at h8; simp at h8; omega)) (fun pe hpe => ?_)
        refine TR.seq ?_
        refine TR.seq ?_
        refine TR.region ?_
        refine RL.assign rfl rfl rfl ?_
        refine RL.nil ?_
        refine NX.seq ?_
        refine TR.block ?_
        refine TR.loopP (ι := SrX) (fun m => m.k ≤ es[x.k].x.length ∧ m.l = y.l ++ List.replicate m.k (-1)) (fun m => [(0, I size), (1, .slice oa es.length ca), (5, .slice m.oa m.l.length m.c), (7, I (x.k : Nat)), (8, I (endS size es x.k)), (9, I (m.k : Nat))]) (fun m => OwnSl 3 1 m.oa m.l.length m.c (ints m.l) :: M) (fun m => CellsF pe.1 pe.2 (edC es) :: F) (fun m => es[x.k].x.length - m.k) ⟨0, 0, y.l, y.oa, y.c⟩ ⟨Nat.zero_le _, (List.append_nil _).symm⟩ ⟨rfl, rfl, rfl, rfl, rfl, rfl, trivial⟩ (fun w hw => (hw.to 1 [0] 1 [0] rfl)) (fun m hm => ?_)
        refine TR.seq ?_
        refine TR.seq ?_
        refine TR.region ?_
        refine RL.move rfl rfl rfl ?_
        refine RL.move rfl rfl rfl ?_
        refine RL.move rfl rfl rfl ?_
        refine RL.indexAddr rfl rb_tl26 rb_tz78 (congrArg (fun a => some (Value.slice a _ _)) hpe) rfl (by omega) (by omega) rfl ?_
        refine RL.fieldAddr rfl rb_tf78_2 rfl rfl ?_
        refine RL.loadF rfl rfl (fun w K hF => run_loadCell1 (j := (((x.k : Nat) : Int)).toNat * 3 + 2) (v := S es[x.k].x) (hF (CellsF pe.1 pe.2 (edC es)) (.head _)) rb_ts9 (by rw [Int.toNat_natCast]; exact edC_at hk rfl)) rfl ?_
        refine RL.lenStr rfl rb_tstr9 rfl rfl ?_
        refine RL.bin rfl rfl rfl BinV.lss rfl ?_
        refine RL.nil ?_
        refine NX.seq ?_
        refine TR.cond rfl (fun h7 => ?_) (fun h7 => ?_)
        · skip
          have hm1 : m.k < es[x.k].x.length := by have := of_decide_eq_true h7; omega
          have hml : m.l.length ≤ 2199023255552 := by rw [hm.2, List.length_append, List.length_replicate]; omega
          refine TR.skip ?_
          refine NX.seq ?_
          refine TR.seq ?_
          refine TR.block ?_
          refine TR.region ?_
          refine RL.move rfl rfl rfl ?_
          refine RL.buildSlice rfl rfl (rb_bs22_1_0 _) rfl (fun b8 => ?_)
          refine RL.ofGV rfl rfl (GV.append (j := 1) rb_tl22 rb_ni22 rb_te3 rfl rfl rfl (src_box (i := 0) rfl rfl rfl) (by omega) (by omega)) (fun z => ?_)
          refine RL.assign rfl rfl rfl ?_
          refine RL.nil ?_
          refine NX.off ?_
          refine NX.seq ?_
          refine TR.region ?_
          refine RL.move rfl rfl rfl ?_
          refine RL.bin rfl rfl rfl (BinV.add _ rfl (by omega) (by omega)) rfl ?_
          refine RL.assign rfl rfl rfl ?_
          refine RL.nil ?_
          refine NX.roundP ⟨m.k + 1, m.q, m.l ++ [-1], z.1, z.2⟩ ⟨hm1, by show m.l ++ [-1] = y.l ++ List.replicate (m.k + 1) (-1); rw [hm.2, List.replicate_succ', List.append_assoc]⟩ (by show _ - (m.k + 1) < _ - m.k; omega) ⟨rfl, rfl, ?_, rfl, rfl, rfl, trivial⟩ (fun w hw => ?_)
          · show some (Value.slice z.1 (m.l.length + 1) z.2) = some (Value.slice z.1 (m.l ++ [_]).length z.2)
            rw [List.length_append]; rfl
          · have h9 := (hw.to 2 [1] 1 [0] rfl)
            show St w (OwnSl 3 1 z.1 (m.l ++ [_]).length z.2 (ints (m.l ++ [_])) :: M) _
            rw [List.length_append, ints_append2]
            exact h9
        · skip
          have hmk : m.k = es[x.k].x.length := by have := of_decide_eq_false h7; have := hm.1; omega
          refine TR.exit ?_
          refine NX.exitThen ?_
          refine NX.exitThen ?_
          refine NX.exitHere ?_
          refine NX.seq ?_
          refine TR.region ?_
          refine RL.move rfl rfl rfl ?_
          refine RL.move rfl rfl rfl ?_
          refine RL.indexAddr rfl rb_tl26 rb_tz78 (congrArg (fun a => some (Value.slice a _ _)) hpe) rfl (by omega) (by omega) rfl ?_
          refine RL.fieldAddr rfl rb_tf78_1 rfl rfl ?_
          refine RL.loadF rfl rfl (fun w K hF => run_loadCell1 (j := (((x.k : Nat) : Int)).toNat * 3 + 1) (v := I es[x.k].t) (hF (CellsF pe.1 pe.2 (edC es)) (.head _)) rb_ts3 (by rw [Int.toNat_natCast]; exact edC_at hk rfl)) rfl ?_
          refine RL.assign rfl rfl rfl ?_
          refine RL.nil ?_
          refine NX.off ?_
          refine NX.seq ?_
          refine TR.region ?_
          refine RL.move rfl rfl rfl ?_
          refine RL.bin rfl rfl rfl (BinV.add _ rfl (by omega) (by omega)) rfl ?_
          refine RL.assign rfl rfl rfl ?_
          refine RL.nil ?_
          refine NX.roundP ⟨x.k + 1, es[x.k].t, m.l, m.oa, m.c⟩ ⟨by show x.k + 1 ≤ _; omega, .inl ⟨by show x.k + 1 ≤ _; omega, by show 0 ≤ es[x.k].t; omega, by show es[x.k].t ≤ size; omega, by show sound1 size es[x.k].t (es.drop (x.k + 1)) = 0; exact g5, by show m.l ++ srcL size es[x.k].t (es.drop (x.k + 1)) = _; rw [hm.2, hmk, List.append_assoc, ← hyr, upTo_nil (Int.le_refl _), List.nil_append, hrem]⟩⟩ (by show _ - (x.k + 1) < _ - x.k; omega) ⟨rfl, rfl, rfl, rfl, rfl, trivial⟩ (fun w hw => (hw.to 1 [0] 1 [] rfl))
      · skip
        have hk : ¬ x.k < es.length := by have := of_decide_eq_false h6; omega
        have hrem : remS size es x.k = [] := by unfold remS; rw [dif_neg hk]
        refine TR.skip ?_
        refine NX.off ?_
        refine NX.seq ?_
        refine TR.region ?_
        refine RL.move rfl rfl rfl ?_
        refine RL.bin rfl rfl rfl (BinV.add _ rfl (by omega) (by omega)) rfl ?_
        refine RL.assign rfl rfl rfl ?_
        refine RL.nil ?_
        refine NX.roundP ⟨x.k + 1, y.q, y.l, y.oa, y.c⟩ ⟨by show x.k + 1 ≤ _; omega, .inr ⟨by show x.k + 1 = _; omega, by show y.l = _; rw [← hyr, upTo_nil (Int.le_refl _), hrem, List.append_nil, List.append_nil]⟩⟩ (by show _ - (x.k + 1) < _ - x.k; omega) ⟨rfl, rfl, rfl, rfl, rfl, trivial⟩ (fun w hw => (hw.to 1 [0] 0 [] rfl))
  · skip
    have hkl : x.k = es.length + 1 := by have := of_decide_eq_false h1; have := hx.1; omega
    have hfin : x.l = srcL size 0 es := by
      rcases hx.2 with h | h
      · omega
      · exact h.2
    refine TR.exit ?_
    refine NX.exitThen ?_
    refine NX.exitThen ?_
    refine NX.exitHere ?_
    refine NX.seq ?_
    refine TR.seq ?_
    refine TR.region ?_
    refine RL.move rfl rfl rfl ?_
    refine RL.assign rfl rfl rfl ?_
    refine RL.nil ?_
    refine NX.seq ?_
    refine TR.ret ?_
    refine NX.ret1 (x.oa, x.c) rfl rfl (by rw [← hfin]) (fun w hw => ?_)
    rw [← hfin]
    exact ((hw.to 1 [0] 0 [] rfl) : St w _ _).keepSl
end Go.Proofs.Ytkdeopioelocnaa

namespace Go.Proofs.Ytkdeopioelocnaa
open Go.GL
set_option linter.unusedVariables false
theorem rc_bs26_1_0 (x00 : Int) (x01 : Int) (x02 : List UInt8) : BuildSV Try.prog 26 78 1 [(0, .agg #[.int .i64 x00, .int .i64 x01, S x02])] [.int .i64 x00, .int .i64 x01, S x02] := fun w => by kernel_rfl
theorem rc_bv78_0_1_2 (x0 : Int) (x1 : Int) (x2 : List UInt8) : BuildV Try.prog 78 [(0, .int .i64 x0), (1, .int .i64 x1), (2, S x2)] (.agg #[.int .i64 x0, .int .i64 x1, S x2]) := fun w => by kernel_rfl
theorem rc_ni26 : noInt Try.prog 26 = true := by kernel_rfl
theorem rc_ta78 : tyAgg Try.prog 78 3 = true := by kernel_rfl
theorem rc_te78 : tyElem Try.prog 78 3 32 = true := by kernel_rfl
theorem rc_tf78_0 : fieldOff Try.prog 78 0 0 = true := by kernel_rfl
theorem rc_tf78_1 : fieldOff Try.prog 78 1 1 = true := by kernel_rfl
theorem rc_tf78_2 : fieldOff Try.prog 78 2 2 = true := by kernel_rfl
theorem rc_tl26 : tySlice Try.prog 26 78 = true := by kernel_rfl
theorem rc_ts3 : tyScalar Try.prog 3 = true := by kernel_rfl
theorem rc_ts9 : tyScalar Try.prog 9 = true := by kernel_rfl
theorem rc_tstr9 : tyStr Try.prog 9 = true := by kernel_rfl
theorem rc_tz3 : tySize Try.prog 3 1 = true := by kernel_rfl
theorem rc_tz78 : tySize Try.prog 78 3 = true := by kernel_rfl
theorem rc_tz9 : tySize Try.prog 9 1 = true := by kernel_rfl
set_option maxHeartbeats 1000000 in
theorem rjoined_spec {es : List Ed} {nn : Int} {oa : Option Addr} {ca : Nat} {M : List HP} {F : List Fact} (ha : ArrF oa (edC es) ∈ F) (hin : ∀ e, e ∈ es → EdIn nn e) (htm : txs es ≤ 1099511627776) (hel : es.length ≤ 2199023255552) : Ctr Try.prog 95 [.slice oa es.length ca] M F RdX (fun z => .slice z.oa (joinL es).length z.c) (fun _ => M) (fun z => ArrF z.oa (edC (joinL es)) :: F) := by
  refine Ctr.body Try.func95 rfl rfl ?_
  refine TR.seq ?_
  refine TR.region ?_
  refine RL.assign rfl rfl rfl ?_
  refine RL.nil ?_
  refine NX.seq ?_
  refine TR.seq ?_
  refine TR.region ?_
  refine RL.assign rfl rfl rfl ?_
  refine RL.weak (fun w hw => OwnSl.nil_new 78 3 hw) ?_
  refine RL.nil ?_
  refine NX.seq ?_
  refine TR.seq ?_
  refine TR.seq ?_
  refine TR.region ?_
  refine RL.assign rfl rfl rfl ?_
  refine RL.nil ?_
  refine NX.seq ?_
  refine TR.block ?_
  refine TR.loopP (ι := KjX) (fun x => x.k ≤ es.length ∧ x.l = joinL (es.take x.k)) (fun x => [(0, .slice oa es.length ca), (3, .slice x.oa x.l.length x.c), (4, I (x.k : Nat))]) (fun x => OwnSl 78 3 x.oa x.l.length x.c (edC x.l) :: M) (fun x => F) (fun x => es.length - x.k) ⟨0, [], none, 0⟩ ⟨Nat.zero_le _, rfl⟩ ⟨rfl, rfl, rfl, trivial⟩ (fun w hw => (hw.to 1 [0] 0 [] rfl)) (fun x hx => ?_)
  refine TR.seq ?_
  refine TR.seq ?_
  refine TR.region ?_
  refine RL.move rfl rfl rfl ?_
  refine RL.move rfl rfl rfl ?_
  refine RL.lenSlice rfl rc_tl26 rfl rfl ?_
  refine RL.bin rfl rfl rfl BinV.lss rfl ?_
  refine RL.nil ?_
  refine NX.seq ?_
  refine TR.cond rfl (fun h1 => ?_) (fun h1 => ?_)
  · skip
    have hk : x.k < es.length := by have := of_decide_eq_true h1; omega
    have hjo := joinL_ok (n := nn) (es := es.take x.k) (fun e he => hin e (List.mem_of_mem_take he))
    rw [← hx.2] at hjo
    have htk : txs (es.take x.k) ≤ txs es := txs_take es x.k
    have hll : x.l.length ≤ es.length := by have := hjo.2.2; rw [List.length_take] at this; omega
    refine TR.openP (open_arr (oa := oa) (xs := edC es) ha (fun e => by have h8 := edC_length es; rw [e] at h8; simp at h8; omega)) (fun pe hpe => ?_)
    refine TR.skip ?_
    refine NX.seq ?_
    refine TR.seq ?_
    refine TR.block ?_
    refine TR.seq ?_
    refine TR.region ?_
    refine RL.move rfl rfl rfl ?_
    refine RL.lenSlice rfl rc_tl26 rfl rfl ?_
    refine RL.assign rfl rfl rfl ?_
    refine RL.nil ?_
    refine NX.seq ?_
    refine TR.seq ?_
    refine TR.sub (E' := [(0, _), (3, _), (4, _), (5, _), (6, _), (7, _), (8, _), (9, _), (12, _), (13, _)]) ⟨rfl, rfl, rfl, rfl, rfl, rfl, rfl, rfl, rfl, rfl, trivial⟩ ?_
    refine TR.draw mixed ?_
    cases h2 : decide ((0 : Int) < ((x.l.length : Nat) : Int))
    · skip
      have hz : x.l = [] := List.eq_nil_of_length_eq_zero (by have := of_decide_eq_false h2; omega)
      have hnj : ∀ y, x.l.getLast? = some y → y.t ≠ es[x.k].f := fun y hy => by rw [hz] at hy; cases hy
      apply AR.more [(0, _), (1, _), (2, .bool false), (3, undef), (4, undef), (5, undef), (6, undef), (7, undef), (8, undef), (9, undef), (10, undef), (11, undef), (12, undef), (13, undef), (14, undef), (15, .bool false)]
      refine AR.last [0, 1, 2, 3, 4, 5, 6, 7, 8, 9, 10, 11, 12, 13, 14, 15] [0, 1, 2, 3, 4, 5, 6, 7, 8, 9, 10, 11, 12, 13, 14, 15] ⟨QOne.yes rfl rfl rfl (PV.move rfl), QOne.yes rfl rfl rfl (PV.bin rfl rfl BinV.gtr), QOne.yes rfl rfl rfl (PV.cast (congrArg Value.bool h2) (PV.move rfl)), QOne.no rfl rfl rfl, QOne.no rfl rfl rfl, QOne.no rfl rfl rfl, QOne.no rfl rfl rfl, QOne.no rfl rfl rfl, QOne.no rfl rfl rfl, QOne.no rfl rfl rfl, QOne.no rfl rfl rfl, QOne.no rfl rfl rfl, QOne.no rfl rfl rfl, QOne.no rfl rfl rfl, QOne.no rfl rfl rfl, QOne.yes rfl rfl rfl (PV.pickF rfl rfl), trivial⟩ rfl rfl rfl ?_
      refine NX.sub (E' := [(0, _), (3, _), (4, _), (5, _), (6, _), (7, _), (8, _), (9, _), (12, _), (13, _), (14, _), (15, _), (16, _), (17, _), (18, _), (19, _), (20, _), (21, _), (22, _), (23, _), (24, _), (25, _), (26, _), (27, _), (28, _), (29, _)]) ⟨rfl, rfl, rfl, rfl, rfl, rfl, rfl, rfl, rfl, rfl, rfl, rfl, rfl, rfl, rfl, rfl, rfl, rfl, rfl, rfl, rfl, rfl, rfl, rfl, rfl, rfl, trivial⟩ ?_
      refine NX.seq ?_
      refine TR.condF rfl ?_
      refine TR.region ?_
      refine RL.move rfl rfl rfl ?_
      refine RL.move rfl rfl rfl ?_
      refine RL.move rfl rfl rfl ?_
      refine RL.indexAddr rfl rc_tl26 rc_tz78 (congrArg (fun a => some (Value.slice a _ _)) hpe) rfl (by omega) (by omega) rfl ?_
      refine RL.loadF rfl rfl (fun w K hF => run_ed (hF (CellsF pe.1 pe.2 (edC es)) (.head _)) rc_ta78 hk) rfl ?_
      refine RL.buildSlice rfl rfl (rc_bs26_1_0 _ _ _) rfl (fun b3 => ?_)
      refine RL.ofGV rfl rfl (GV.append (j := 1) rc_tl26 rc_ni26 rc_te78 rfl rfl rfl (src_box (i := 0) rfl rfl rfl) (by omega) (by omega)) (fun y => ?_)
      refine RL.assign rfl rfl rfl ?_
      refine RL.nil ?_
      refine NX.off ?_
      refine NX.seq ?_
      refine TR.region ?_
      refine RL.move rfl rfl rfl ?_
      refine RL.bin rfl rfl rfl (BinV.add _ rfl (by omega) (by omega)) rfl ?_
      refine RL.assign rfl rfl rfl ?_
      refine RL.nil ?_
      refine NX.roundP ⟨x.k + 1, joinStep x.l es[x.k], y.1, y.2⟩ ⟨hk, by show joinStep x.l es[x.k] = joinL (es.take (x.k + 1)); rw [List.take_succ_eq_append_getElem hk, joinL_snoc, hx.2]⟩ (by show _ - (x.k + 1) < _ - x.k; omega) ⟨rfl, ?_, rfl, trivial⟩ (fun w hw => ?_)
      · show some (Value.slice y.1 (x.l.length + 1) y.2) = some (Value.slice y.1 (joinStep x.l es[x.k]).length y.2)
        rw [joinStep_new hnj, List.length_append]; rfl
      · have h9 := (hw.to 2 [1] 1 [] rfl)
        show St w (OwnSl 78 3 y.1 (joinStep x.l es[x.k]).length y.2 (edC (joinStep x.l es[x.k])) :: M) F
        rw [joinStep_new hnj, List.length_append, edC_append]
        exact h9
    · skip
      have hpos0 : 0 < x.l.length := by have := of_decide_eq_true h2; omega
      refine AR.openP (fun w hw => own_at (i := 0) rfl (fun e => by have h8 := edC_length x.l; rw [e] at h8; simp at h8; omega) hw) (fun g1 hg1 => ?_)
      apply AR.more [(0, _), (1, _), (2, .bool true), (3, _), (4, _), (5, _), (6, _), (7, _), (8, _), (9, _), (10, _), (11, _), (12, _), (13, _), (14, _), (15, _)]
      refine AR.last [0, 1, 2, 3, 4, 5, 6, 7, 8, 9, 10, 11, 12, 13, 14, 15] [0, 1, 2, 3, 4, 5, 6, 7, 8, 9, 10, 11, 12, 13, 14, 15] ⟨QOne.yes rfl rfl rfl (PV.move rfl), QOne.yes rfl rfl rfl (PV.bin rfl rfl BinV.gtr), QOne.yes rfl rfl rfl (PV.cast (congrArg Value.bool h2) (PV.move rfl)), QOne.yes rfl rfl rfl (PV.move rfl), QOne.yes rfl rfl rfl (PV.move rfl), QOne.yes rfl rfl rfl (PV.bin rfl rfl (BinV.sub ((x.l.length - 1 : Nat) : Int) (by omega) (by omega) (by omega))), QOne.yes rfl rfl rfl (PV.indexAddr rc_tl26 rc_tz78 (congrArg (fun a => some (Value.slice a _ _)) hg1) rfl (by omega) (by omega)), QOne.yes rfl rfl rfl (PV.fieldAddr rc_tf78_1 rfl), QOne.yes rfl rfl rfl (PV.loadS rfl (own_one (i := 0) rfl hg1 rc_ts3 (show (edC x.l)[0 + ((x.l.length - 1 : Nat) : Int).toNat * 3 + 1]? = some (I (x.l[x.l.length - 1]'(by omega)).t) from edC_at1 (by omega) rfl))), QOne.yes rfl rfl rfl (PV.move rfl), QOne.yes rfl rfl rfl (PV.move rfl), QOne.yes rfl rfl rfl (PV.indexAddr rc_tl26 rc_tz78 (congrArg (fun a => some (Value.slice a _ _)) hpe) rfl (by omega) (by omega)), QOne.yes rfl rfl rfl (PV.fieldAddr rc_tf78_0 rfl), QOne.yes rfl rfl rfl (PV.loadF rfl (fun w K hF => run_loadCell1 (j := (((x.k : Nat) : Int)).toNat * 3 + 0) (v := I es[x.k].f) (hF (CellsF pe.1 pe.2 (edC es)) (.head _)) rc_ts3 (by rw [Int.toNat_natCast]; exact edC_at hk rfl))), QOne.yes rfl rfl rfl (PV.bin rfl rfl BinV.eql), QOne.yes rfl rfl rfl (PV.pickT rfl rfl), trivial⟩ rfl rfl rfl ?_
      refine NX.sub (E' := [(0, _), (3, _), (4, _), (5, _), (6, _), (7, _), (8, _), (9, _), (12, _), (13, _), (14, _), (15, _), (16, _), (17, _), (18, _), (19, _), (20, _), (21, _), (22, _), (23, _), (24, _), (25, _), (26, _), (27, _), (28, _), (29, _)]) ⟨rfl, rfl, rfl, rfl, rfl, rfl, rfl, rfl, rfl, rfl, rfl, rfl, rfl, rfl, rfl, rfl, rfl, rfl, rfl, rfl, rfl, rfl, rfl, rfl, rfl, rfl, trivial⟩ ?_
      refine NX.seq ?_
      refine TR.cond rfl (fun h5 => ?_) (fun h5 => ?_)
      · skip
        have hcj : (x.l[x.l.length - 1]'(by omega)).t = es[x.k].f := of_decide_eq_true h5
        have hpos : 0 < x.l.length := by omega
        refine TR.openP (fun w hw => own_at (i := 0) rfl (fun e => by have h8 := edC_length x.l; rw [e] at h8; simp at h8; omega) hw) (fun g1 hg1 => ?_)
        refine TR.seq ?_
        refine TR.region ?_
        refine RL.move rfl rfl rfl ?_
        refine RL.move rfl rfl rfl ?_
        refine RL.bin rfl rfl rfl (BinV.sub ((x.l.length - 1 : Nat) : Int) (by omega) (by omega) (by omega)) rfl ?_
        refine RL.move rfl rfl rfl ?_
        refine RL.move rfl rfl rfl ?_
        refine RL.indexAddr rfl rc_tl26 rc_tz78 (congrArg (fun a => some (Value.slice a _ _)) hpe) rfl (by omega) (by omega) rfl ?_
        refine RL.fieldAddr rfl rc_tf78_1 rfl rfl ?_
        refine RL.loadF rfl rfl (fun w K hF => run_loadCell1 (j := (((x.k : Nat) : Int)).toNat * 3 + 1) (v := I es[x.k].t) (hF (CellsF pe.1 pe.2 (edC es)) (.head _)) rc_ts3 (by rw [Int.toNat_natCast]; exact edC_at hk rfl)) rfl ?_
        refine RL.indexAddr rfl rc_tl26 rc_tz78 (congrArg (fun a => some (Value.slice a _ _)) hg1) rfl (by omega) (by omega) rfl ?_
        refine RL.fieldAddr rfl rc_tf78_1 rfl rfl ?_
        refine RL.ofEV rfl rfl (EV.storeO (vs := [I es[x.k].t]) (oa := x.oa) 0 rfl rfl rfl hg1 rc_tz3 rfl (by show 0 + ((x.l.length - 1 : Nat) : Int).toNat * 3 + 1 + 1 ≤ ( edC x.l).length; rw [edC_length, Int.toNat_natCast]; omega) rfl) ?_
        rw [edC_setT x.l (x.l.length - 1) (by omega) es[x.k].t]
        refine RL.nil ?_
        refine NX.seq ?_
        obtain ⟨x2, hx2⟩ : ∃ x2, x2 = x.l.set (x.l.length - 1) ⟨(x.l[x.l.length - 1]'(by omega)).f, es[x.k].t, (x.l[x.l.length - 1]'(by omega)).x⟩ := ⟨_, rfl⟩
        rw [← hx2]
        refine TR.sub (E' := [(0, _), (3, _), (4, _), (5, _), (6, _), (7, _), (8, _), (9, _), (12, _), (13, _), (14, _), (15, _), (16, _), (17, _), (18, _), (19, _), (20, _), (21, _), (22, _), (23, _), (24, _), (25, _), (26, _), (27, _), (28, _), (29, _), (30, _), (31, _), (32, _), (33, _), (34, _), (35, _), (36, _), (37, _), (38, _), (39, _)]) ⟨rfl, rfl, rfl, rfl, rfl, rfl, rfl, rfl, rfl, rfl, rfl, rfl, rfl, rfl, rfl, rfl, rfl, rfl, rfl, rfl, rfl, rfl, rfl, rfl, rfl, rfl, rfl, rfl, rfl, rfl, rfl, rfl, rfl, rfl, rfl, rfl, trivial⟩ ?_
        refine TR.draw mixed ?_
        apply AR.more [(0, _), (1, _), (2, _), (3, _), (4, _), (5, _), (6, _), (7, _), (8, _), (9, _), (10, _), (11, _), (12, _), (13, _), (14, _), (15, _), (16, _)]
        refine AR.eff [0, 1, 2, 3, 4, 5, 6, 7, 8, 9, 10, 11, 12, 13, 14, 15, 16] 17 [0, 1, 2, 3, 4, 5, 6, 7, 8, 9, 10, 11, 12, 13, 14, 15, 16, 17] ⟨QOne.yes rfl rfl rfl (PV.move rfl), QOne.yes rfl rfl rfl (PV.move rfl), QOne.yes rfl rfl rfl (PV.bin rfl rfl (BinV.sub ((x.l.length - 1 : Nat) : Int) (by omega) (by omega) (by omega))), QOne.yes rfl rfl rfl (PV.move rfl), QOne.yes rfl rfl rfl (PV.move rfl), QOne.yes rfl rfl rfl (PV.bin rfl rfl (BinV.sub ((x.l.length - 1 : Nat) : Int) (by omega) (by omega) (by omega))), QOne.yes rfl rfl rfl (PV.indexAddr rc_tl26 rc_tz78 (congrArg (fun a => some (Value.slice a _ _)) hg1) rfl (by omega) (by omega)), QOne.yes rfl rfl rfl (PV.fieldAddr rc_tf78_2 rfl), QOne.yes rfl rfl rfl (PV.loadS rfl (own_one (i := 0) rfl hg1 rc_ts9 (show (edC x2)[0 + ((x.l.length - 1 : Nat) : Int).toNat * 3 + 2]? = some (S (x.l[x.l.length - 1]'(by omega)).x) from by subst hx2; exact edC_at1 (by rw [List.length_set]; omega) (by rw [List.getElem_set_self]; rfl)))), QOne.yes rfl rfl rfl (PV.move rfl), QOne.yes rfl rfl rfl (PV.move rfl), QOne.yes rfl rfl rfl (PV.indexAddr rc_tl26 rc_tz78 (congrArg (fun a => some (Value.slice a _ _)) hpe) rfl (by omega) (by omega)), QOne.yes rfl rfl rfl (PV.fieldAddr rc_tf78_2 rfl), QOne.yes rfl rfl rfl (PV.loadF rfl (fun w K hF => run_loadCell1 (j := (((x.k : Nat) : Int)).toNat * 3 + 2) (v := S es[x.k].x) (hF (CellsF pe.1 pe.2 (edC es)) (.head _)) rc_ts9 (by rw [Int.toNat_natCast]; exact edC_at hk rfl))), QOne.yes rfl rfl rfl (PV.bin rfl rfl (BinV.addS (by have := txs_mem (es := x.l) (List.getElem_mem (show x.l.length - 1 < x.l.length by omega)); have := txs_mem (es := es) (List.getElem_mem hk); omega))), QOne.yes rfl rfl rfl (PV.indexAddr rc_tl26 rc_tz78 (congrArg (fun a => some (Value.slice a _ _)) hg1) rfl (by omega) (by omega)), QOne.yes rfl rfl rfl (PV.fieldAddr rc_tf78_2 rfl), trivial⟩ rfl rfl rfl rfl rfl rfl rfl (EV.storeO (vs := [S ((x.l[x.l.length - 1]'(by omega)).x ++ es[x.k].x)]) (oa := x.oa) (xs := edC x2) 0 rfl rfl rfl hg1 rc_tz9 rfl (by show 0 + ((x.l.length - 1 : Nat) : Int).toNat * 3 + 2 + 1 ≤ (edC x2).length; rw [edC_length, Int.toNat_natCast, hx2, List.length_set]; omega) rfl) (fun _ => ?_)
        refine AR.done [16, 14, 0, 1, 2, 3, 4, 5, 6, 7, 8, 9, 10, 11, 12, 13, 15] rfl ?_
        refine AR.last [] [0, 1, 2, 3, 4, 5, 6, 7, 8, 9, 10, 11, 12, 13, 14, 15, 16, 17] trivial rfl rfl rfl ?_
        refine NX.sub (E' := [(0, _), (3, _), (4, _), (5, _), (6, _), (7, _), (8, _), (9, _), (12, _), (13, _), (14, _), (15, _), (16, _), (17, _), (18, _), (19, _), (20, _), (21, _), (22, _), (23, _), (24, _), (25, _), (26, _), (27, _), (28, _), (29, _), (30, _), (31, _), (32, _), (33, _), (34, _), (35, _), (36, _), (37, _), (38, _), (39, _), (40, _), (41, _), (42, _), (43, _), (44, _), (45, _), (46, _), (47, _), (48, _), (49, _), (50, _), (51, _), (52, _), (53, _), (54, _), (55, _), (56, _)]) ⟨rfl, rfl, rfl, rfl, rfl, rfl, rfl, rfl, rfl, rfl, rfl, rfl, rfl, rfl, rfl, rfl, rfl, rfl, rfl, rfl, rfl, rfl, rfl, rfl, rfl, rfl, rfl, rfl, rfl, rfl, rfl, rfl, rfl, rfl, rfl, rfl, rfl, rfl, rfl, rfl, rfl, rfl, rfl, rfl, rfl, rfl, rfl, rfl, rfl, rfl, rfl, rfl, rfl, trivial⟩ ?_
        refine NX.off ?_
        refine NX.seq ?_
        refine TR.region ?_
        refine RL.move rfl rfl rfl ?_
        refine RL.bin rfl rfl rfl (BinV.add _ rfl (by omega) (by omega)) rfl ?_
        refine RL.assign rfl rfl rfl ?_
        refine RL.nil ?_
        refine NX.roundP ⟨x.k + 1, joinStep x.l es[x.k], x.oa, x.c⟩ ⟨hk, by show joinStep x.l es[x.k] = joinL (es.take (x.k + 1)); rw [List.take_succ_eq_append_getElem hk, joinL_snoc, hx.2]⟩ (by show _ - (x.k + 1) < _ - x.k; omega) ⟨rfl, ?_, rfl, trivial⟩ (fun w hw => ?_)
        · show some (Value.slice x.oa x.l.length x.c) = some (Value.slice x.oa (joinStep x.l es[x.k]).length x.c)
          rw [joinStep_old hpos hcj, List.length_set]
        · have h9 := (hw.to 1 [0] 1 [] rfl)
          show St w (OwnSl 78 3 x.oa (joinStep x.l es[x.k]).length x.c (edC (joinStep x.l es[x.k])) :: M) F
          rw [joinStep_old hpos hcj, List.length_set]
          rw [← edC_setX2 (by omega) hx2]
          exact h9
      · skip
        have hcj : ¬ (x.l[x.l.length - 1]'(by omega)).t = es[x.k].f := of_decide_eq_false h5
        have hnj : ∀ y, x.l.getLast? = some y → y.t ≠ es[x.k].f := fun y hy => by rw [last_of (by omega)] at hy; rw [← Option.some.inj hy]; exact hcj
        refine TR.region ?_
        refine RL.move rfl rfl rfl ?_
        refine RL.move rfl rfl rfl ?_
        refine RL.move rfl rfl rfl ?_
        refine RL.indexAddr rfl rc_tl26 rc_tz78 (congrArg (fun a => some (Value.slice a _ _)) hpe) rfl (by omega) (by omega) rfl ?_
        refine RL.loadF rfl rfl (fun w K hF => run_ed (hF (CellsF pe.1 pe.2 (edC es)) (.head _)) rc_ta78 hk) rfl ?_
        refine RL.buildSlice rfl rfl (rc_bs26_1_0 _ _ _) rfl (fun b6 => ?_)
        refine RL.ofGV rfl rfl (GV.append (j := 1) rc_tl26 rc_ni26 rc_te78 rfl rfl rfl (src_box (i := 0) rfl rfl rfl) (by omega) (by omega)) (fun y => ?_)
        refine RL.assign rfl rfl rfl ?_
        refine RL.nil ?_
        refine NX.off ?_
        refine NX.seq ?_
        refine TR.region ?_
        refine RL.move rfl rfl rfl ?_
        refine RL.bin rfl rfl rfl (BinV.add _ rfl (by omega) (by omega)) rfl ?_
        refine RL.assign rfl rfl rfl ?_
        refine RL.nil ?_
        refine NX.roundP ⟨x.k + 1, joinStep x.l es[x.k], y.1, y.2⟩ ⟨hk, by show joinStep x.l es[x.k] = joinL (es.take (x.k + 1)); rw [List.take_succ_eq_append_getElem hk, joinL_snoc, hx.2]⟩ (by show _ - (x.k + 1) < _ - x.k; omega) ⟨rfl, ?_, rfl, trivial⟩ (fun w hw => ?_)
        · show some (Value.slice y.1 (x.l.length + 1) y.2) = some (Value.slice y.1 (joinStep x.l es[x.k]).length y.2)
          rw [joinStep_new hnj, List.length_append]; rfl
        · have h9 := (hw.to 2 [1] 1 [] rfl)
          show St w (OwnSl 78 3 y.1 (joinStep x.l es[x.k]).length y.2 (edC (joinStep x.l es[x.k])) :: M) F
          rw [joinStep_new hnj, List.length_append, edC_append]
          exact h9
  · skip
    have hk2 : x.k = es.length := by have := of_decide_eq_false h1; have := hx.1; omega
    have hjl : x.l = joinL es := by rw [hx.2, hk2, List.take_length]
    refine TR.exit ?_
    refine NX.exitThen ?_
    refine NX.exitThen ?_
    refine NX.exitHere ?_
    refine NX.seq ?_
    refine TR.seq ?_
    refine TR.region ?_
    refine RL.move rfl rfl rfl ?_
    refine RL.assign rfl rfl rfl ?_
    refine RL.nil ?_
    refine NX.seq ?_
    refine TR.ret ?_
    refine NX.ret1 (⟨x.oa, x.c⟩ : RdX) rfl rfl (by rw [← hjl]) (fun w hw => ?_)
    rw [← hjl]
    exact ((hw.to 1 [0] 0 [] rfl) : St w _ _).keepSl
set_option maxHeartbeats 1000000 in
theorem rnormal_spec {tx : List UInt8} {es : List Ed} {oa : Option Addr} {ca : Nat} {M : List HP} {F : List Fact} (ha : ArrF oa (edC es) ∈ F) (hin : ∀ e, e ∈ es → EdIn tx.length e) (hl : tx.length ≤ 1099511627776) (htm : txs es ≤ 1099511627776) (hel : es.length ≤ 2199023255552) : Ctr Try.prog 84 [S tx, .slice oa es.length ca] M F RdX (fun z => .slice z.oa (normE tx es).length z.c) (fun _ => M) (fun z => ArrF z.oa (edC (normE tx es)) :: F) := by
  refine Ctr.body Try.func84 rfl rfl ?_
  refine TR.seq ?_
  refine TR.region ?_
  refine RL.assign rfl rfl rfl ?_
  refine RL.nil ?_
  refine NX.seq ?_
  refine TR.seq ?_
  refine TR.region ?_
  refine RL.move rfl rfl rfl ?_
  refine RL.call rfl rfl Try.call95 rfl (rjoined_spec (nn := tx.length) ha hin htm hel) (fun zj => ?_)
  refine RL.assign rfl rfl rfl ?_
  refine RL.nil ?_
  refine NX.seq ?_
  refine TR.seq ?_
  obtain ⟨jl, hjl⟩ : ∃ jl, jl = joinL es := ⟨_, rfl⟩
  have hjo := joinL_ok (n := tx.length) (es := es) hin
  rw [← hjl] at hjo
  rw [← hjl]
  refine TR.region ?_
  refine RL.assign rfl rfl rfl ?_
  refine RL.weak (fun w hw => OwnSl.nil_new 78 3 hw) ?_
  refine RL.nil ?_
  refine NX.seq ?_
  refine TR.seq ?_
  refine TR.seq ?_
  refine TR.region ?_
  refine RL.assign rfl rfl rfl ?_
  refine RL.nil ?_
  refine NX.seq ?_
  refine TR.block ?_
  refine TR.loopP (ι := KjX) (fun i => i.k ≤ jl.length ∧ i.l = (jl.take i.k).filter (fun e : Ed => !decide (e.x = cutI tx e.f e.t))) (fun i => [(0, S tx), (5, .slice zj.oa jl.length zj.c), (6, .slice i.oa i.l.length i.c), (7, I (i.k : Nat))]) (fun i => OwnSl 78 3 i.oa i.l.length i.c (edC i.l) :: M) (fun i => ArrF zj.oa (edC jl) :: F) (fun i => jl.length - i.k) ⟨0, [], none, 0⟩ ⟨Nat.zero_le _, rfl⟩ ⟨rfl, rfl, rfl, rfl, trivial⟩ (fun w hw => (hw.to 1 [0] 1 [0] rfl)) (fun i hi => ?_)
  refine TR.seq ?_
  refine TR.seq ?_
  refine TR.region ?_
  refine RL.move rfl rfl rfl ?_
  refine RL.move rfl rfl rfl ?_
  refine RL.lenSlice rfl rc_tl26 rfl rfl ?_
  refine RL.bin rfl rfl rfl BinV.lss rfl ?_
  refine RL.nil ?_
  refine NX.seq ?_
  refine TR.cond rfl (fun h1 => ?_) (fun h1 => ?_)
  · skip
    have hi1 : i.k < jl.length := by have := of_decide_eq_true h1; omega
    have hil : i.l.length ≤ i.k := by rw [hi.2]; exact Nat.le_trans (List.length_filter_le _ _) (by rw [List.length_take]; omega)
    obtain ⟨he1, he2, he3⟩ := hjo.1 _ (List.getElem_mem hi1)
    refine TR.openP (open_arr (oa := zj.oa) (xs := edC jl) (.head _) (fun e => by have h8 := edC_length jl; rw [e] at h8; simp at h8; omega)) (fun pj hpj => ?_)
    refine TR.skip ?_
    refine NX.seq ?_
    refine TR.seq ?_
    refine TR.block ?_
    refine TR.seq ?_
    refine TR.sub (E' := [(0, _), (5, _), (6, _), (7, _), (10, _), (11, _), (12, _), (13, _)]) ⟨rfl, rfl, rfl, rfl, rfl, rfl, rfl, rfl, trivial⟩ ?_
    refine TR.draw mixed ?_
    apply AR.more [(0, _), (1, _), (2, _), (3, _), (4, _), (5, _), (6, _), (7, _), (8, _), (9, _), (10, _), (11, _), (12, _), (13, _), (14, _), (15, _), (16, _), (17, _)]
    refine AR.last [0, 1, 2, 3, 4, 5, 6, 7, 8, 9, 10, 11, 12, 13, 14, 15, 16, 17] [0, 1, 2, 3, 4, 5, 6, 7, 8, 9, 10, 11, 12, 13, 14, 15, 16, 17] ⟨QOne.yes rfl rfl rfl (PV.move rfl), QOne.yes rfl rfl rfl (PV.move rfl), QOne.yes rfl rfl rfl (PV.move rfl), QOne.yes rfl rfl rfl (PV.indexAddr rc_tl26 rc_tz78 (congrArg (fun a => some (Value.slice a _ _)) hpj) rfl (by omega) (by omega)), QOne.yes rfl rfl rfl (PV.fieldAddr rc_tf78_0 rfl), QOne.yes rfl rfl rfl (PV.loadF rfl (fun w K hF => run_loadCell1 (j := (((i.k : Nat) : Int)).toNat * 3 + 0) (v := I jl[i.k].f) (hF (CellsF pj.1 pj.2 (edC jl)) (.head _)) rc_ts3 (by rw [Int.toNat_natCast]; exact edC_at hi1 rfl))), QOne.yes rfl rfl rfl (PV.move rfl), QOne.yes rfl rfl rfl (PV.move rfl), QOne.yes rfl rfl rfl (PV.indexAddr rc_tl26 rc_tz78 (congrArg (fun a => some (Value.slice a _ _)) hpj) rfl (by omega) (by omega)), QOne.yes rfl rfl rfl (PV.fieldAddr rc_tf78_1 rfl), QOne.yes rfl rfl rfl (PV.loadF rfl (fun w K hF => run_loadCell1 (j := (((i.k : Nat) : Int)).toNat * 3 + 1) (v := I jl[i.k].t) (hF (CellsF pj.1 pj.2 (edC jl)) (.head _)) rc_ts3 (by rw [Int.toNat_natCast]; exact edC_at hi1 rfl))), QOne.yes rfl rfl rfl (PV.sliceS rc_tstr9 rfl rfl rfl (by omega) (by omega) (by omega)), QOne.yes rfl rfl rfl (PV.move rfl), QOne.yes rfl rfl rfl (PV.move rfl), QOne.yes rfl rfl rfl (PV.indexAddr rc_tl26 rc_tz78 (congrArg (fun a => some (Value.slice a _ _)) hpj) rfl (by omega) (by omega)), QOne.yes rfl rfl rfl (PV.fieldAddr rc_tf78_2 rfl), QOne.yes rfl rfl rfl (PV.loadF rfl (fun w K hF => run_loadCell1 (j := (((i.k : Nat) : Int)).toNat * 3 + 2) (v := S jl[i.k].x) (hF (CellsF pj.1 pj.2 (edC jl)) (.head _)) rc_ts9 (by rw [Int.toNat_natCast]; exact edC_at hi1 rfl))), QOne.yes rfl rfl rfl (PV.bin rfl rfl BinV.neqS), trivial⟩ rfl rfl rfl ?_
    refine NX.sub (E' := [(0, _), (5, _), (6, _), (7, _), (10, _), (11, _), (12, _), (13, _), (16, _), (17, _), (18, _), (19, _), (20, _), (21, _), (22, _), (23, _), (24, _), (25, _), (26, _), (27, _), (28, _), (29, _), (30, _), (31, _), (32, _), (33, _)]) ⟨rfl, rfl, rfl, rfl, rfl, rfl, rfl, rfl, rfl, rfl, rfl, rfl, rfl, rfl, rfl, rfl, rfl, rfl, rfl, rfl, rfl, rfl, rfl, rfl, rfl, rfl, trivial⟩ ?_
    refine NX.seq ?_
    refine TR.cond rfl (fun h2 => ?_) (fun h2 => ?_)
    · skip
      have hne : ¬ jl[i.k].x = cutI tx jl[i.k].f jl[i.k].t := fun e => by have h7 := of_decide_eq_true h2; exact h7 e.symm
      refine TR.region ?_
      refine RL.move rfl rfl rfl ?_
      refine RL.move rfl rfl rfl ?_
      refine RL.move rfl rfl rfl ?_
      refine RL.indexAddr rfl rc_tl26 rc_tz78 (congrArg (fun a => some (Value.slice a _ _)) hpj) rfl (by omega) (by omega) rfl ?_
      refine RL.loadF rfl rfl (fun w K hF => run_ed (hF (CellsF pj.1 pj.2 (edC jl)) (.head _)) rc_ta78 hi1) rfl ?_
      refine RL.buildSlice rfl rfl (rc_bs26_1_0 _ _ _) rfl (fun b3 => ?_)
      refine RL.ofGV rfl rfl (GV.append (j := 1) rc_tl26 rc_ni26 rc_te78 rfl rfl rfl (src_box (i := 0) rfl rfl rfl) (by omega) (by omega)) (fun y => ?_)
      refine RL.assign rfl rfl rfl ?_
      refine RL.nil ?_
      refine NX.off ?_
      refine NX.seq ?_
      refine TR.region ?_
      refine RL.move rfl rfl rfl ?_
      refine RL.bin rfl rfl rfl (BinV.add _ rfl (by omega) (by omega)) rfl ?_
      refine RL.assign rfl rfl rfl ?_
      refine RL.nil ?_
      refine NX.roundP ⟨i.k + 1, i.l ++ [jl[i.k]], y.1, y.2⟩ ⟨hi1, by show i.l ++ [jl[i.k]] = (jl.take (i.k + 1)).filter (fun e : Ed => !decide (e.x = cutI tx e.f e.t)); rw [List.take_succ_eq_append_getElem hi1, List.filter_append, ← hi.2]; congr 1; exact (List.filter_cons_of_pos (p := (fun e : Ed => !decide (e.x = cutI tx e.f e.t))) (l := []) (by simpa using hne)).symm⟩ (by show _ - (i.k + 1) < _ - i.k; omega) ⟨rfl, rfl, ?_, rfl, trivial⟩ (fun w hw => ?_)
      · show some (Value.slice y.1 (i.l.length + 1) y.2) = some (Value.slice y.1 (i.l ++ [_]).length y.2)
        rw [List.length_append]; rfl
      · have h9 := (hw.to 2 [1] 2 [1] rfl)
        show St w (OwnSl 78 3 y.1 (i.l ++ [_]).length y.2 (edC (i.l ++ [_])) :: M) _
        rw [List.length_append, edC_append]
        exact h9
    · skip
      have hne : jl[i.k].x = cutI tx jl[i.k].f jl[i.k].t := (Decidable.not_not.1 (of_decide_eq_false h2)).symm
      refine TR.skip ?_
      refine NX.off ?_
      refine NX.seq ?_
      refine TR.region ?_
      refine RL.move rfl rfl rfl ?_
      refine RL.bin rfl rfl rfl (BinV.add _ rfl (by omega) (by omega)) rfl ?_
      refine RL.assign rfl rfl rfl ?_
      refine RL.nil ?_
      refine NX.roundP ⟨i.k + 1, i.l, i.oa, i.c⟩ ⟨hi1, by show i.l = (jl.take (i.k + 1)).filter (fun e : Ed => !decide (e.x = cutI tx e.f e.t)); rw [List.take_succ_eq_append_getElem hi1, List.filter_append, ← hi.2, List.filter_cons_of_neg (by simpa using hne)]; simp⟩ (by show _ - (i.k + 1) < _ - i.k; omega) ⟨rfl, rfl, rfl, rfl, trivial⟩ (fun w hw => (hw.to 1 [0] 2 [1] rfl))
  · skip
    have hi2 : i.k = jl.length := by have := of_decide_eq_false h1; have := hi.1; omega
    refine TR.exit ?_
    refine NX.exitThen ?_
    refine NX.exitThen ?_
    refine NX.exitHere ?_
    refine NX.seq ?_
    refine TR.seq ?_
    refine TR.region ?_
    refine RL.move rfl rfl rfl ?_
    refine RL.assign rfl rfl rfl ?_
    refine RL.nil ?_
    refine NX.seq ?_
    refine TR.ret ?_
    have hlf : i.l = normE tx es := by rw [hi.2, hi2, List.take_length, hjl]; rfl
    refine NX.ret1 (⟨i.oa, i.c⟩ : RdX) rfl rfl (by rw [← hlf]) (fun w hw => ?_)
    rw [← hlf]
    exact ((hw.to 1 [0] 1 [] rfl) : St w _ _).keepSl
set_option maxHeartbeats 1000000 in
theorem rdiff_spec {a b : List UInt8} {M : List HP} {F : List Fact} (hla : a.length ≤ 4611686018427387904) (hlb : b.length ≤ 4611686018427387904) : Ctr Try.prog 64 [S a, S b] M F RdX (fun z => .slice z.oa (diffE a b).length z.c) (fun _ => M) (fun z => ArrF z.oa (edC (diffE a b)) :: F) := by
  refine Ctr.body Try.func64 rfl rfl ?_
  refine TR.seq ?_
  refine TR.region ?_
  refine RL.assign rfl rfl rfl ?_
  refine RL.nil ?_
  refine NX.seq ?_
  refine TR.seq ?_
  refine TR.seq ?_
  refine TR.region ?_
  refine RL.move rfl rfl rfl ?_
  refine RL.move rfl rfl rfl ?_
  refine RL.bin rfl rfl rfl BinV.eqlS rfl ?_
  refine RL.nil ?_
  refine NX.seq ?_
  refine TR.cond rfl (fun h1 => ?_) (fun h1 => ?_)
  · skip
    have hab : a = b := of_decide_eq_true h1
    refine TR.seq ?_
    refine TR.region ?_
    refine RL.assign rfl rfl rfl ?_
    refine RL.nil ?_
    refine NX.seq ?_
    refine TR.ret ?_
    refine NX.retThen ?_
    rw [diffE_same hab]
    exact NX.ret1x rfl rfl (fun w hw => ⟨⟨none, 0⟩, rfl, hw.arr0⟩)
  · skip
    have hab : ¬ a = b := of_decide_eq_false h1
    refine TR.skip ?_
    refine NX.seq ?_
    refine TR.seq ?_
    refine TR.region ?_
    refine RL.assign rfl rfl rfl ?_
    refine RL.nil ?_
    refine NX.seq ?_
    refine TR.seq ?_
    refine TR.block ?_
    refine TR.loopP (ι := Nat) (fun x => x ≤ a.length ∧ x ≤ b.length ∧ a.take x = b.take x) (fun x => [(0, S a), (1, S b), (5, I x)]) (fun _ => M) (fun _ => F) (fun x => a.length - x) 0 ⟨Nat.zero_le _, Nat.zero_le _, rfl⟩ ⟨rfl, rfl, rfl, trivial⟩ (fun w hw => hw) (fun x hx => ?_)
    refine TR.seq ?_
    refine TR.seq ?_
    refine TR.sub (E' := [(0, _), (1, _), (5, _)]) ⟨rfl, rfl, rfl, trivial⟩ ?_
    refine TR.draw mixed ?_
    cases h2 : decide ((x : Int) < (a.length : Int))
    · skip
      have hpx : lcp a b = x := lcp_stop hx.1 hx.2.1 hx.2.2 (by have := of_decide_eq_false h2; omega)
      apply AR.more [(0, _), (1, _), (2, _), (3, _), (4, .bool false), (5, undef), (6, undef), (7, undef), (8, undef), (9, .bool false), (10, .bool false), (11, undef), (12, undef), (13, undef), (14, undef), (15, undef), (16, undef), (17, undef), (18, .bool false)]
      refine AR.last [0, 1, 2, 3, 4, 5, 6, 7, 8, 9, 10, 11, 12, 13, 14, 15, 16, 17, 18] [0, 1, 2, 3, 4, 5, 6, 7, 8, 9, 10, 11, 12, 13, 14, 15, 16, 17, 18] ⟨QOne.yes rfl rfl rfl (PV.move rfl), QOne.yes rfl rfl rfl (PV.move rfl), QOne.yes rfl rfl rfl (PV.lenStr rc_tstr9 rfl), QOne.yes rfl rfl rfl (PV.bin rfl rfl BinV.lss), QOne.yes rfl rfl rfl (PV.cast (congrArg Value.bool h2) (PV.move rfl)), QOne.no rfl rfl rfl, QOne.no rfl rfl rfl, QOne.no rfl rfl rfl, QOne.no rfl rfl rfl, QOne.yes rfl rfl rfl (PV.pickF rfl rfl), QOne.yes rfl rfl rfl (PV.move rfl), QOne.no rfl rfl rfl, QOne.no rfl rfl rfl, QOne.no rfl rfl rfl, QOne.no rfl rfl rfl, QOne.no rfl rfl rfl, QOne.no rfl rfl rfl, QOne.no rfl rfl rfl, QOne.yes rfl rfl rfl (PV.pickF rfl rfl), trivial⟩ rfl rfl rfl ?_
      refine NX.sub (E' := [(0, _), (1, _), (5, _), (10, _), (11, _), (12, _), (13, _), (14, _), (15, _), (16, _), (17, _), (18, _), (19, _), (20, _), (21, _), (22, _), (23, _), (24, _), (25, _), (26, _), (27, _), (28, _)]) ⟨rfl, rfl, rfl, rfl, rfl, rfl, rfl, rfl, rfl, rfl, rfl, rfl, rfl, rfl, rfl, rfl, rfl, rfl, rfl, rfl, rfl, rfl, trivial⟩ ?_
      refine NX.seq ?_
      refine TR.condF rfl ?_
      refine TR.exit ?_
      refine NX.exitThen ?_
      refine NX.exitThen ?_
      refine NX.exitHere ?_
      refine NX.seq ?_
      refine TR.seq ?_
      refine TR.region ?_
      refine RL.assign rfl rfl rfl ?_
      refine RL.nil ?_
      refine NX.seq ?_
      refine TR.seq ?_
      refine TR.block ?_
      refine TR.loopP (ι := Nat) (fun y => x + y ≤ a.length ∧ x + y ≤ b.length ∧ a.drop (a.length - y) = b.drop (b.length - y)) (fun y => [(0, S a), (1, S b), (5, I x), (6, I y)]) (fun _ => M) (fun _ => F) (fun y => a.length - y) 0 ⟨hx.1, hx.2.1, by simp⟩ ⟨rfl, rfl, rfl, rfl, trivial⟩ (fun w hw => hw) (fun y hy => ?_)
      refine TR.seq ?_
      refine TR.seq ?_
      refine TR.sub (E' := [(0, _), (1, _), (5, _), (6, _)]) ⟨rfl, rfl, rfl, rfl, trivial⟩ ?_
      refine TR.draw mixed ?_
      cases h3 : decide ((y : Int) < (a.length : Int) - x)
      · skip
        have hqy := suf_stop hy.1 hy.2.1 hy.2.2 (by have := of_decide_eq_false h3; omega)
        apply AR.more [(0, _), (1, _), (2, _), (3, _), (4, _), (5, _), (6, .bool false), (7, undef), (8, undef), (9, undef), (10, undef), (11, undef), (12, undef), (13, .bool false), (14, .bool false), (15, undef), (16, undef), (17, undef), (18, undef), (19, undef), (20, undef), (21, undef), (22, undef), (23, undef), (24, undef), (25, undef), (26, undef), (27, undef), (28, undef), (29, undef), (30, .bool false)]
        refine AR.last [0, 1, 2, 3, 4, 5, 6, 7, 8, 9, 10, 11, 12, 13, 14, 15, 16, 17, 18, 19, 20, 21, 22, 23, 24, 25, 26, 27, 28, 29, 30] [0, 1, 2, 3, 4, 5, 6, 7, 8, 9, 10, 11, 12, 13, 14, 15, 16, 17, 18, 19, 20, 21, 22, 23, 24, 25, 26, 27, 28, 29, 30] ⟨QOne.yes rfl rfl rfl (PV.move rfl), QOne.yes rfl rfl rfl (PV.move rfl), QOne.yes rfl rfl rfl (PV.lenStr rc_tstr9 rfl), QOne.yes rfl rfl rfl (PV.move rfl), QOne.yes rfl rfl rfl (PV.bin rfl rfl (BinV.sub _ rfl (by omega) (by omega))), QOne.yes rfl rfl rfl (PV.bin rfl rfl BinV.lss), QOne.yes rfl rfl rfl (PV.cast (congrArg Value.bool h3) (PV.move rfl)), QOne.no rfl rfl rfl, QOne.no rfl rfl rfl, QOne.no rfl rfl rfl, QOne.no rfl rfl rfl, QOne.no rfl rfl rfl, QOne.no rfl rfl rfl, QOne.yes rfl rfl rfl (PV.pickF rfl rfl), QOne.yes rfl rfl rfl (PV.move rfl), QOne.no rfl rfl rfl, QOne.no rfl rfl rfl, QOne.no rfl rfl rfl, QOne.no rfl rfl rfl, QOne.no rfl rfl rfl, QOne.no rfl rfl rfl, QOne.no rfl rfl rfl, QOne.no rfl rfl rfl, QOne.no rfl rfl rfl, QOne.no rfl rfl rfl, QOne.no rfl rfl rfl, QOne.no rfl rfl rfl, QOne.no rfl rfl rfl, QOne.no rfl rfl rfl, QOne.no rfl rfl rfl, QOne.yes rfl rfl rfl (PV.pickF rfl rfl), trivial⟩ rfl rfl rfl ?_
        refine NX.sub (E' := [(0, _), (1, _), (5, _), (6, _), (31, _), (32, _), (33, _), (34, _), (35, _), (36, _), (37, _), (38, _), (39, _), (40, _), (41, _), (42, _), (43, _), (44, _), (45, _), (46, _), (47, _), (48, _), (49, _), (50, _), (51, _), (52, _), (53, _), (54, _), (55, _), (56, _), (57, _), (58, _), (59, _), (60, _), (61, _)]) ⟨rfl, rfl, rfl, rfl, rfl, rfl, rfl, rfl, rfl, rfl, rfl, rfl, rfl, rfl, rfl, rfl, rfl, rfl, rfl, rfl, rfl, rfl, rfl, rfl, rfl, rfl, rfl, rfl, rfl, rfl, rfl, rfl, rfl, rfl, rfl, trivial⟩ ?_
        refine NX.seq ?_
        refine TR.condF rfl ?_
        refine TR.exit ?_
        refine NX.exitThen ?_
        refine NX.exitThen ?_
        refine NX.exitHere ?_
        refine NX.seq ?_
        refine TR.seq ?_
        refine TR.region ?_
        refine RL.move rfl rfl rfl ?_
        refine RL.move rfl rfl rfl ?_
        refine RL.lenStr rfl rc_tstr9 rfl rfl ?_
        refine RL.move rfl rfl rfl ?_
        refine RL.bin rfl rfl rfl (BinV.sub _ rfl (by omega) (by omega)) rfl ?_
        refine RL.move rfl rfl rfl ?_
        refine RL.move rfl rfl rfl ?_
        refine RL.move rfl rfl rfl ?_
        refine RL.lenStr rfl rc_tstr9 rfl rfl ?_
        refine RL.move rfl rfl rfl ?_
        refine RL.bin rfl rfl rfl (BinV.sub _ rfl (by omega) (by omega)) rfl ?_
        refine RL.sliceS rfl rc_tstr9 rfl rfl rfl (by omega) (by omega) (by omega) rfl ?_
        refine RL.build rfl rfl (rc_bv78_0_1_2 _ _ _) rfl ?_
        refine RL.buildSlice rfl rfl (rc_bs26_1_0 _ _ _) rfl (fun b4 => ?_)
        refine RL.assign rfl rfl rfl ?_
        refine RL.nil ?_
        refine NX.seq ?_
        refine TR.ret ?_
        rw [diffE_is hab hpx hqy]
        have e1 : ((b.length : Int) - y).toNat = b.length - y := by omega
        have e2 : ((a.length : Int) - y) = ((a.length - y : Nat) : Int) := by omega
        refine NX.ret1x rfl rfl (fun w hw => ⟨⟨_, 1⟩, rfl, ?_⟩)
        have h9 := hw.boxArr
        rw [e1, e2, Int.toNat_natCast] at h9
        exact h9
      · skip
        have hy1 : x + y < a.length := by have := of_decide_eq_true h3; omega
        have hya : (((a.length : Int) - 1) - y).toNat < a.length := by omega
        cases h5 : decide ((y : Int) < (b.length : Int) - x)
        · skip
          have hqy := suf_stop hy.1 hy.2.1 hy.2.2 (by have := of_decide_eq_false h5; omega)
          apply AR.more [(0, _), (1, _), (2, _), (3, _), (4, _), (5, _), (6, .bool true), (7, _), (8, _), (9, _), (10, _), (11, _), (12, _), (13, _), (14, .bool false), (15, undef), (16, undef), (17, undef), (18, undef), (19, undef), (20, undef), (21, undef), (22, undef), (23, undef), (24, undef), (25, undef), (26, undef), (27, undef), (28, undef), (29, undef), (30, .bool false)]
          refine AR.last [0, 1, 2, 3, 4, 5, 6, 7, 8, 9, 10, 11, 12, 13, 14, 15, 16, 17, 18, 19, 20, 21, 22, 23, 24, 25, 26, 27, 28, 29, 30] [0, 1, 2, 3, 4, 5, 6, 7, 8, 9, 10, 11, 12, 13, 14, 15, 16, 17, 18, 19, 20, 21, 22, 23, 24, 25, 26, 27, 28, 29, 30] ⟨QOne.yes rfl rfl rfl (PV.move rfl), QOne.yes rfl rfl rfl (PV.move rfl), QOne.yes rfl rfl rfl (PV.lenStr rc_tstr9 rfl), QOne.yes rfl rfl rfl (PV.move rfl), QOne.yes rfl rfl rfl (PV.bin rfl rfl (BinV.sub _ rfl (by omega) (by omega))), QOne.yes rfl rfl rfl (PV.bin rfl rfl BinV.lss), QOne.yes rfl rfl rfl (PV.cast (congrArg Value.bool h3) (PV.move rfl)), QOne.yes rfl rfl rfl (PV.move rfl), QOne.yes rfl rfl rfl (PV.move rfl), QOne.yes rfl rfl rfl (PV.lenStr rc_tstr9 rfl), QOne.yes rfl rfl rfl (PV.move rfl), QOne.yes rfl rfl rfl (PV.bin rfl rfl (BinV.sub _ rfl (by omega) (by omega))), QOne.yes rfl rfl rfl (PV.bin rfl rfl BinV.lss), QOne.yes rfl rfl rfl (PV.pickT rfl rfl), QOne.yes rfl rfl rfl (PV.cast (congrArg Value.bool h5) (PV.move rfl)), QOne.no rfl rfl rfl, QOne.no rfl rfl rfl, QOne.no rfl rfl rfl, QOne.no rfl rfl rfl, QOne.no rfl rfl rfl, QOne.no rfl rfl rfl, QOne.no rfl rfl rfl, QOne.no rfl rfl rfl, QOne.no rfl rfl rfl, QOne.no rfl rfl rfl, QOne.no rfl rfl rfl, QOne.no rfl rfl rfl, QOne.no rfl rfl rfl, QOne.no rfl rfl rfl, QOne.no rfl rfl rfl, QOne.yes rfl rfl rfl (PV.pickF rfl rfl), trivial⟩ rfl rfl rfl ?_
          refine NX.sub (E' := [(0, _), (1, _), (5, _), (6, _), (31, _), (32, _), (33, _), (34, _), (35, _), (36, _), (37, _), (38, _), (39, _), (40, _), (41, _), (42, _), (43, _), (44, _), (45, _), (46, _), (47, _), (48, _), (49, _), (50, _), (51, _), (52, _), (53, _), (54, _), (55, _), (56, _), (57, _), (58, _), (59, _), (60, _), (61, _)]) ⟨rfl, rfl, rfl, rfl, rfl, rfl, rfl, rfl, rfl, rfl, rfl, rfl, rfl, rfl, rfl, rfl, rfl, rfl, rfl, rfl, rfl, rfl, rfl, rfl, rfl, rfl, rfl, rfl, rfl, rfl, rfl, rfl, rfl, rfl, rfl, trivial⟩ ?_
          refine NX.seq ?_
          refine TR.condF rfl ?_
          refine TR.exit ?_
          refine NX.exitThen ?_
          refine NX.exitThen ?_
          refine NX.exitHere ?_
          refine NX.seq ?_
          refine TR.seq ?_
          refine TR.region ?_
          refine RL.move rfl rfl rfl ?_
          refine RL.move rfl rfl rfl ?_
          refine RL.lenStr rfl rc_tstr9 rfl rfl ?_
          refine RL.move rfl rfl rfl ?_
          refine RL.bin rfl rfl rfl (BinV.sub _ rfl (by omega) (by omega)) rfl ?_
          refine RL.move rfl rfl rfl ?_
          refine RL.move rfl rfl rfl ?_
          refine RL.move rfl rfl rfl ?_
          refine RL.lenStr rfl rc_tstr9 rfl rfl ?_
          refine RL.move rfl rfl rfl ?_
          refine RL.bin rfl rfl rfl (BinV.sub _ rfl (by omega) (by omega)) rfl ?_
          refine RL.sliceS rfl rc_tstr9 rfl rfl rfl (by omega) (by omega) (by omega) rfl ?_
          refine RL.build rfl rfl (rc_bv78_0_1_2 _ _ _) rfl ?_
          refine RL.buildSlice rfl rfl (rc_bs26_1_0 _ _ _) rfl (fun b6 => ?_)
          refine RL.assign rfl rfl rfl ?_
          refine RL.nil ?_
          refine NX.seq ?_
          refine TR.ret ?_
          rw [diffE_is hab hpx hqy]
          have e1 : ((b.length : Int) - y).toNat = b.length - y := by omega
          have e2 : ((a.length : Int) - y) = ((a.length - y : Nat) : Int) := by omega
          refine NX.ret1x rfl rfl (fun w hw => ⟨⟨_, 1⟩, rfl, ?_⟩)
          have h9 := hw.boxArr
          rw [e1, e2, Int.toNat_natCast] at h9
          exact h9
        · skip
          have hy2 : x + y < b.length := by have := of_decide_eq_true h5; omega
          have hyb : (((b.length : Int) - 1) - y).toNat < b.length := by omega
          apply AR.more [(0, _), (1, _), (2, _), (3, _), (4, _), (5, _), (6, .bool true), (7, _), (8, _), (9, _), (10, _), (11, _), (12, _), (13, _), (14, .bool true), (15, _), (16, _), (17, _), (18, _), (19, _), (20, _), (21, _), (22, _), (23, _), (24, _), (25, _), (26, _), (27, _), (28, _), (29, _), (30, _)]
          refine AR.last [0, 1, 2, 3, 4, 5, 6, 7, 8, 9, 10, 11, 12, 13, 14, 15, 16, 17, 18, 19, 20, 21, 22, 23, 24, 25, 26, 27, 28, 29, 30] [0, 1, 2, 3, 4, 5, 6, 7, 8, 9, 10, 11, 12, 13, 14, 15, 16, 17, 18, 19, 20, 21, 22, 23, 24, 25, 26, 27, 28, 29, 30] ⟨QOne.yes rfl rfl rfl (PV.move rfl), QOne.yes rfl rfl rfl (PV.move rfl), QOne.yes rfl rfl rfl (PV.lenStr rc_tstr9 rfl), QOne.yes rfl rfl rfl (PV.move rfl), QOne.yes rfl rfl rfl (PV.bin rfl rfl (BinV.sub _ rfl (by omega) (by omega))), QOne.yes rfl rfl rfl (PV.bin rfl rfl BinV.lss), QOne.yes rfl rfl rfl (PV.cast (congrArg Value.bool h3) (PV.move rfl)), QOne.yes rfl rfl rfl (PV.move rfl), QOne.yes rfl rfl rfl (PV.move rfl), QOne.yes rfl rfl rfl (PV.lenStr rc_tstr9 rfl), QOne.yes rfl rfl rfl (PV.move rfl), QOne.yes rfl rfl rfl (PV.bin rfl rfl (BinV.sub _ rfl (by omega) (by omega))), QOne.yes rfl rfl rfl (PV.bin rfl rfl BinV.lss), QOne.yes rfl rfl rfl (PV.pickT rfl rfl), QOne.yes rfl rfl rfl (PV.cast (congrArg Value.bool h5) (PV.move rfl)), QOne.yes rfl rfl rfl (PV.move rfl), QOne.yes rfl rfl rfl (PV.move rfl), QOne.yes rfl rfl rfl (PV.lenStr rc_tstr9 rfl), QOne.yes rfl rfl rfl (PV.bin rfl rfl (BinV.sub _ rfl (by omega) (by omega))), QOne.yes rfl rfl rfl (PV.move rfl), QOne.yes rfl rfl rfl (PV.bin rfl rfl (BinV.sub _ rfl (by omega) (by omega))), QOne.yes rfl rfl rfl (PV.indexS rc_tstr9 rfl rfl (by omega) (List.getElem?_eq_getElem hya)), QOne.yes rfl rfl rfl (PV.move rfl), QOne.yes rfl rfl rfl (PV.move rfl), QOne.yes rfl rfl rfl (PV.lenStr rc_tstr9 rfl), QOne.yes rfl rfl rfl (PV.bin rfl rfl (BinV.sub _ rfl (by omega) (by omega))), QOne.yes rfl rfl rfl (PV.move rfl), QOne.yes rfl rfl rfl (PV.bin rfl rfl (BinV.sub _ rfl (by omega) (by omega))), QOne.yes rfl rfl rfl (PV.indexS rc_tstr9 rfl rfl (by omega) (List.getElem?_eq_getElem hyb)), QOne.yes rfl rfl rfl (PV.bin rfl rfl BinV.eql), QOne.yes rfl rfl rfl (PV.pickT rfl rfl), trivial⟩ rfl rfl rfl ?_
          refine NX.sub (E' := [(0, _), (1, _), (5, _), (6, _), (31, _), (32, _), (33, _), (34, _), (35, _), (36, _), (37, _), (38, _), (39, _), (40, _), (41, _), (42, _), (43, _), (44, _), (45, _), (46, _), (47, _), (48, _), (49, _), (50, _), (51, _), (52, _), (53, _), (54, _), (55, _), (56, _), (57, _), (58, _), (59, _), (60, _), (61, _)]) ⟨rfl, rfl, rfl, rfl, rfl, rfl, rfl, rfl, rfl, rfl, rfl, rfl, rfl, rfl, rfl, rfl, rfl, rfl, rfl, rfl, rfl, rfl, rfl, rfl, rfl, rfl, rfl, rfl, rfl, rfl, rfl, rfl, rfl, rfl, rfl, trivial⟩ ?_
          refine NX.seq ?_
          refine TR.cond rfl (fun h7 => ?_) (fun h7 => ?_)
          · skip
            have hch : a[a.length - 1 - y]'(by omega) = b[b.length - 1 - y]'(by omega) := by
              have h8 := byte_eq (of_decide_eq_true h7)
              have e1 : (((a.length : Int) - 1) - y).toNat = a.length - 1 - y := by omega
              have e2 : (((b.length : Int) - 1) - y).toNat = b.length - 1 - y := by omega
              simp only [e1, e2] at h8
              exact h8
            refine TR.skip ?_
            refine NX.seq ?_
            refine TR.block ?_
            refine TR.region ?_
            refine RL.move rfl rfl rfl ?_
            refine RL.bin rfl rfl rfl (BinV.add _ rfl (by omega) (by omega)) rfl ?_
            refine RL.assign rfl rfl rfl ?_
            refine RL.nil ?_
            refine NX.off ?_
            refine NX.roundP (y + 1) ⟨by omega, by omega, suffix_step (by omega) (by omega) hy.2.2 hch⟩ (by omega) ⟨rfl, rfl, rfl, rfl, trivial⟩ (fun w hw => hw)
          · skip
            have hqy := suf_stop hy.1 hy.2.1 hy.2.2 (.inr (.inr ⟨hy1, hy2, fun h8 => by
              have e1 : (((a.length : Int) - 1) - y).toNat = a.length - 1 - y := by omega
              have e2 : (((b.length : Int) - 1) - y).toNat = b.length - 1 - y := by omega
              have h9 := of_decide_eq_false h7
              simp only [e1, e2] at h9
              exact h9 (by rw [h8])⟩))
            refine TR.exit ?_
            refine NX.exitThen ?_
            refine NX.exitThen ?_
            refine NX.exitHere ?_
            refine NX.seq ?_
            refine TR.seq ?_
            refine TR.region ?_
            refine RL.move rfl rfl rfl ?_
            refine RL.move rfl rfl rfl ?_
            refine RL.lenStr rfl rc_tstr9 rfl rfl ?_
            refine RL.move rfl rfl rfl ?_
            refine RL.bin rfl rfl rfl (BinV.sub _ rfl (by omega) (by omega)) rfl ?_
            refine RL.move rfl rfl rfl ?_
            refine RL.move rfl rfl rfl ?_
            refine RL.move rfl rfl rfl ?_
            refine RL.lenStr rfl rc_tstr9 rfl rfl ?_
            refine RL.move rfl rfl rfl ?_
            refine RL.bin rfl rfl rfl (BinV.sub _ rfl (by omega) (by omega)) rfl ?_
            refine RL.sliceS rfl rc_tstr9 rfl rfl rfl (by omega) (by omega) (by omega) rfl ?_
            refine RL.build rfl rfl (rc_bv78_0_1_2 _ _ _) rfl ?_
            refine RL.buildSlice rfl rfl (rc_bs26_1_0 _ _ _) rfl (fun b8 => ?_)
            refine RL.assign rfl rfl rfl ?_
            refine RL.nil ?_
            refine NX.seq ?_
            refine TR.ret ?_
            rw [diffE_is hab hpx hqy]
            have e1 : ((b.length : Int) - y).toNat = b.length - y := by omega
            have e2 : ((a.length : Int) - y) = ((a.length - y : Nat) : Int) := by omega
            refine NX.ret1x rfl rfl (fun w hw => ⟨⟨_, 1⟩, rfl, ?_⟩)
            have h9 := hw.boxArr
            rw [e1, e2, Int.toNat_natCast] at h9
            exact h9
    · skip
      have hx1 : x < a.length := by have := of_decide_eq_true h2; omega
      have hxa : (x : Int).toNat < a.length := by omega
      cases h9 : decide ((x : Int) < (b.length : Int))
      · skip
        have hpx : lcp a b = x := lcp_stop hx.1 hx.2.1 hx.2.2 (by have := of_decide_eq_false h9; omega)
        apply AR.more [(0, _), (1, _), (2, _), (3, _), (4, .bool true), (5, _), (6, _), (7, _), (8, _), (9, _), (10, .bool false), (11, undef), (12, undef), (13, undef), (14, undef), (15, undef), (16, undef), (17, undef), (18, .bool false)]
        refine AR.last [0, 1, 2, 3, 4, 5, 6, 7, 8, 9, 10, 11, 12, 13, 14, 15, 16, 17, 18] [0, 1, 2, 3, 4, 5, 6, 7, 8, 9, 10, 11, 12, 13, 14, 15, 16, 17, 18] ⟨QOne.yes rfl rfl rfl (PV.move rfl), QOne.yes rfl rfl rfl (PV.move rfl), QOne.yes rfl rfl rfl (PV.lenStr rc_tstr9 rfl), QOne.yes rfl rfl rfl (PV.bin rfl rfl BinV.lss), QOne.yes rfl rfl rfl (PV.cast (congrArg Value.bool h2) (PV.move rfl)), QOne.yes rfl rfl rfl (PV.move rfl), QOne.yes rfl rfl rfl (PV.move rfl), QOne.yes rfl rfl rfl (PV.lenStr rc_tstr9 rfl), QOne.yes rfl rfl rfl (PV.bin rfl rfl BinV.lss), QOne.yes rfl rfl rfl (PV.pickT rfl rfl), QOne.yes rfl rfl rfl (PV.cast (congrArg Value.bool h9) (PV.move rfl)), QOne.no rfl rfl rfl, QOne.no rfl rfl rfl, QOne.no rfl rfl rfl, QOne.no rfl rfl rfl, QOne.no rfl rfl rfl, QOne.no rfl rfl rfl, QOne.no rfl rfl rfl, QOne.yes rfl rfl rfl (PV.pickF rfl rfl), trivial⟩ rfl rfl rfl ?_
        refine NX.sub (E' := [(0, _), (1, _), (5, _), (10, _), (11, _), (12, _), (13, _), (14, _), (15, _), (16, _), (17, _), (18, _), (19, _), (20, _), (21, _), (22, _), (23, _), (24, _), (25, _), (26, _), (27, _), (28, _)]) ⟨rfl, rfl, rfl, rfl, rfl, rfl, rfl, rfl, rfl, rfl, rfl, rfl, rfl, rfl, rfl, rfl, rfl, rfl, rfl, rfl, rfl, rfl, trivial⟩ ?_
        refine NX.seq ?_
        refine TR.condF rfl ?_
        refine TR.exit ?_
        refine NX.exitThen ?_
        refine NX.exitThen ?_
        refine NX.exitHere ?_
        refine NX.seq ?_
        refine TR.seq ?_
        refine TR.region ?_
        refine RL.assign rfl rfl rfl ?_
        refine RL.nil ?_
        refine NX.seq ?_
        refine TR.seq ?_
        refine TR.block ?_
        refine TR.loopP (ι := Nat) (fun y => x + y ≤ a.length ∧ x + y ≤ b.length ∧ a.drop (a.length - y) = b.drop (b.length - y)) (fun y => [(0, S a), (1, S b), (5, I x), (6, I y)]) (fun _ => M) (fun _ => F) (fun y => a.length - y) 0 ⟨hx.1, hx.2.1, by simp⟩ ⟨rfl, rfl, rfl, rfl, trivial⟩ (fun w hw => hw) (fun y hy => ?_)
        refine TR.seq ?_
        refine TR.seq ?_
        refine TR.sub (E' := [(0, _), (1, _), (5, _), (6, _)]) ⟨rfl, rfl, rfl, rfl, trivial⟩ ?_
        refine TR.draw mixed ?_
        cases h10 : decide ((y : Int) < (a.length : Int) - x)
        · skip
          have hqy := suf_stop hy.1 hy.2.1 hy.2.2 (by have := of_decide_eq_false h10; omega)
          apply AR.more [(0, _), (1, _), (2, _), (3, _), (4, _), (5, _), (6, .bool false), (7, undef), (8, undef), (9, undef), (10, undef), (11, undef), (12, undef), (13, .bool false), (14, .bool false), (15, undef), (16, undef), (17, undef), (18, undef), (19, undef), (20, undef), (21, undef), (22, undef), (23, undef), (24, undef), (25, undef), (26, undef), (27, undef), (28, undef), (29, undef), (30, .bool false)]
          refine AR.last [0, 1, 2, 3, 4, 5, 6, 7, 8, 9, 10, 11, 12, 13, 14, 15, 16, 17, 18, 19, 20, 21, 22, 23, 24, 25, 26, 27, 28, 29, 30] [0, 1, 2, 3, 4, 5, 6, 7, 8, 9, 10, 11, 12, 13, 14, 15, 16, 17, 18, 19, 20, 21, 22, 23, 24, 25, 26, 27, 28, 29, 30] ⟨QOne.yes rfl rfl rfl (PV.move rfl), QOne.yes rfl rfl rfl (PV.move rfl), QOne.yes rfl rfl rfl (PV.lenStr rc_tstr9 rfl), QOne.yes rfl rfl rfl (PV.move rfl), QOne.yes rfl rfl rfl (PV.bin rfl rfl (BinV.sub _ rfl (by omega) (by omega))), QOne.yes rfl rfl rfl (PV.bin rfl rfl BinV.lss), QOne.yes rfl rfl rfl (PV.cast (congrArg Value.bool h10) (PV.move rfl)), QOne.no rfl rfl rfl, QOne.no rfl rfl rfl, QOne.no rfl rfl rfl, QOne.no rfl rfl rfl, QOne.no rfl rfl rfl, QOne.no rfl rfl rfl, QOne.yes rfl rfl rfl (PV.pickF rfl rfl), QOne.yes rfl rfl rfl (PV.move rfl), QOne.no rfl rfl rfl, QOne.no rfl rfl rfl, QOne.no rfl rfl rfl, QOne.no rfl rfl rfl, QOne.no rfl rfl rfl, QOne.no rfl rfl rfl, QOne.no rfl rfl rfl, QOne.no rfl rfl rfl, QOne.no rfl rfl rfl, QOne.no rfl rfl rfl, QOne.no rfl rfl rfl, QOne.no rfl rfl rfl, QOne.no rfl rfl rfl, QOne.no rfl rfl rfl, QOne.no rfl rfl rfl, QOne.yes rfl rfl rfl (PV.pickF rfl rfl), trivial⟩ rfl rfl rfl ?_
          refine NX.sub (E' := [(0, _), (1, _), (5, _), (6, _), (31, _), (32, _), (33, _), (34, _), (35, _), (36, _), (37, _), (38, _), (39, _), (40, _), (41, _), (42, _), (43, _), (44, _), (45, _), (46, _), (47, _), (48, _), (49, _), (50, _), (51, _), (52, _), (53, _), (54, _), (55, _), (56, _), (57, _), (58, _), (59, _), (60, _), (61, _)]) ⟨rfl, rfl, rfl, rfl, rfl, rfl, rfl, rfl, rfl, rfl, rfl, rfl, rfl, rfl, rfl, rfl, rfl, rfl, rfl, rfl, rfl, rfl, rfl, rfl, rfl, rfl, rfl, rfl, rfl, rfl, rfl, rfl, rfl, rfl, rfl, trivial⟩ ?_
          refine NX.seq ?_
          refine TR.condF rfl ?_
          refine TR.exit ?_
          refine NX.exitThen ?_
          refine NX.exitThen ?_
          refine NX.exitHere ?_
          refine NX.seq ?_
          refine TR.seq ?_
          refine TR.region ?_
          refine RL.move rfl rfl rfl ?_
          refine RL.move rfl rfl rfl ?_
          refine RL.lenStr rfl rc_tstr9 rfl rfl ?_
          refine RL.move rfl rfl rfl ?_
          refine RL.bin rfl rfl rfl (BinV.sub _ rfl (by omega) (by omega)) rfl ?_
          refine RL.move rfl rfl rfl ?_
          refine RL.move rfl rfl rfl ?_
          refine RL.move rfl rfl rfl ?_
          refine RL.lenStr rfl rc_tstr9 rfl rfl ?_
          refine RL.move rfl rfl rfl ?_
          refine RL.bin rfl rfl rfl (BinV.sub _ rfl (by omega) (by omega)) rfl ?_
          refine RL.sliceS rfl rc_tstr9 rfl rfl rfl (by omega) (by omega) (by omega) rfl ?_
          refine RL.build rfl rfl (rc_bv78_0_1_2 _ _ _) rfl ?_
          refine RL.buildSlice rfl rfl (rc_bs26_1_0 _ _ _) rfl (fun b11 => ?_)
          refine RL.assign rfl rfl rfl ?_
          refine RL.nil ?_
          refine NX.seq ?_
          refine TR.ret ?_
          rw [diffE_is hab hpx hqy]
          have e1 : ((b.length : Int) - y).toNat = b.length - y := by omega
          have e2 : ((a.length : Int) - y) = ((a.length - y : Nat) : Int) := by omega
          refine NX.ret1x rfl rfl (fun w hw => ⟨⟨_, 1⟩, rfl, ?_⟩)
          have h9 := hw.boxArr
          rw [e1, e2, Int.toNat_natCast] at h9
          exact h9
        · skip
          have hy1 : x + y < a.length := by have := of_decide_eq_true h10; omega
          have hya : (((a.length : Int) - 1) - y).toNat < a.length := by omega
          cases h12 : decide ((y : Int) < (b.length : Int) - x)
          · skip
            have hqy := suf_stop hy.1 hy.2.1 hy.2.2 (by have := of_decide_eq_false h12; omega)
            apply AR.more [(0, _), (1, _), (2, _), (3, _), (4, _), (5, _), (6, .bool true), (7, _), (8, _), (9, _), (10, _), (11, _), (12, _), (13, _), (14, .bool false), (15, undef), (16, undef), (17, undef), (18, undef), (19, undef), (20, undef), (21, undef), (22, undef), (23, undef), (24, undef), (25, undef), (26, undef), (27, undef), (28, undef), (29, undef), (30, .bool false)]
            refine AR.last [0, 1, 2, 3, 4, 5, 6, 7, 8, 9, 10, 11, 12, 13, 14, 15, 16, 17, 18, 19, 20, 21, 22, 23, 24, 25, 26, 27, 28, 29, 30] [0, 1, 2, 3, 4, 5, 6, 7, 8, 9, 10, 11, 12, 13, 14, 15, 16, 17, 18, 19, 20, 21, 22, 23, 24, 25, 26, 27, 28, 29, 30] ⟨QOne.yes rfl rfl rfl (PV.move rfl), QOne.yes rfl rfl rfl (PV.move rfl), QOne.yes rfl rfl rfl (PV.lenStr rc_tstr9 rfl), QOne.yes rfl rfl rfl (PV.move rfl), QOne.yes rfl rfl rfl (PV.bin rfl rfl (BinV.sub _ rfl (by omega) (by omega))), QOne.yes rfl rfl rfl (PV.bin rfl rfl BinV.lss), QOne.yes rfl rfl rfl (PV.cast (congrArg Value.bool h10) (PV.move rfl)), QOne.yes rfl rfl rfl (PV.move rfl), QOne.yes rfl rfl rfl (PV.move rfl), QOne.yes rfl rfl rfl (PV.lenStr rc_tstr9 rfl), QOne.yes rfl rfl rfl (PV.move rfl), QOne.yes rfl rfl rfl (PV.bin rfl rfl (BinV.sub _ rfl (by omega) (by omega))), QOne.yes rfl rfl rfl (PV.bin rfl rfl BinV.lss), QOne.yes rfl rfl rfl (PV.pickT rfl rfl), QOne.yes rfl rfl rfl (PV.cast (congrArg Value.bool h12) (PV.move rfl)), QOne.no rfl rfl rfl, QOne.no rfl rfl rfl, QOne.no rfl rfl rfl, QOne.no rfl rfl rfl, QOne.no rfl rfl rfl, QOne.no rfl rfl rfl, QOne.no rfl rfl rfl, QOne.no rfl rfl rfl, QOne.no rfl rfl rfl, QOne.no rfl rfl rfl, QOne.no rfl rfl rfl, QOne.no rfl rfl rfl, QOne.no rfl rfl rfl, QOne.no rfl rfl rfl, QOne.no rfl rfl rfl, QOne.yes rfl rfl rfl (PV.pickF rfl rfl), trivial⟩ rfl rfl rfl ?_
            refine NX.sub (E' := [(0, _), (1, _), (5, _), (6, _), (31, _), (32, _), (33, _), (34, _), (35, _), (36, _), (37, _), (38, _), (39, _), (40, _), (41, _), (42, _), (43, _), (44, _), (45, _), (46, _), (47, _), (48, _), (49, _), (50, _), (51, _), (52, _), (53, _), (54, _), (55, _), (56, _), (57, _), (58, _), (59, _), (60, _), (61, _)]) ⟨rfl, rfl, rfl, rfl, rfl, rfl, rfl, rfl, rfl, rfl, rfl, rfl, rfl, rfl, rfl, rfl, rfl, rfl, rfl, rfl, rfl, rfl, rfl, rfl, rfl, rfl, rfl, rfl, rfl, rfl, rfl, rfl, rfl, rfl, rfl, trivial⟩ ?_
            refine NX.seq ?_
            refine TR.condF rfl ?_
            refine TR.exit ?_
            refine NX.exitThen ?_
            refine NX.exitThen ?_
            refine NX.exitHere ?_
            refine NX.seq ?_
            refine TR.seq ?_
            refine TR.region ?_
            refine RL.move rfl rfl rfl ?_
            refine RL.move rfl rfl rfl ?_
            refine RL.lenStr rfl rc_tstr9 rfl rfl ?_
            refine RL.move rfl rfl rfl ?_
            refine RL.bin rfl rfl rfl (BinV.sub _ rfl (by omega) (by omega)) rfl ?_
            refine RL.move rfl rfl rfl ?_
            refine RL.move rfl rfl rfl ?_
            refine RL.move rfl rfl rfl ?_
            refine RL.lenStr rfl rc_tstr9 rfl rfl ?_
            refine RL.move rfl rfl rfl ?_
            refine RL.bin rfl rfl rfl (BinV.sub _ rfl (by omega) (by omega)) rfl ?_
            refine RL.sliceS rfl rc_tstr9 rfl rfl rfl (by omega) (by omega) (by omega) rfl ?_
            refine RL.build rfl rfl (rc_bv78_0_1_2 _ _ _) rfl ?_
            refine RL.buildSlice rfl rfl (rc_bs26_1_0 _ _ _) rfl (fun b13 => ?_)
            refine RL.assign rfl rfl rfl ?_
            refine RL.nil ?_
            refine NX.seq ?_
            refine TR.ret ?_
            rw [diffE_is hab hpx hqy]
            have e1 : ((b.length : Int) - y).toNat = b.length - y := by omega
            have e2 : ((a.length : Int) - y) = ((a.length - y : Nat) : Int) := by omega
            refine NX.ret1x rfl rfl (fun w hw => ⟨⟨_, 1⟩, rfl, ?_⟩)
            have h9 := hw.boxArr
            rw [e1, e2, Int.toNat_natCast] at h9
            exact h9
          · skip
            have hy2 : x + y < b.length := by have := of_decide_eq_true h12; omega
            have hyb : (((b.length : Int) - 1) - y).toNat < b.length := by omega
            apply AR.more [(0, _), (1, _), (2, _), (3, _), (4, _), (5, _), (6, .bool true), (7, _), (8, _), (9, _), (10, _), (11, _), (12, _), (13, _), (14, .bool true), (15, _), (16, _), (17, _), (18, _), (19, _), (20, _), (21, _), (22, _), (23, _), (24, _), (25, _), (26, _), (27, _), (28, _), (29, _), (30, _)]
            refine AR.last [0, 1, 2, 3, 4, 5, 6, 7, 8, 9, 10, 11, 12, 13, 14, 15, 16, 17, 18, 19, 20, 21, 22, 23, 24, 25, 26, 27, 28, 29, 30] [0, 1, 2, 3, 4, 5, 6, 7, 8, 9, 10, 11, 12, 13, 14, 15, 16, 17, 18, 19, 20, 21, 22, 23, 24, 25, 26, 27, 28, 29, 30] ⟨QOne.yes rfl rfl rfl (PV.move rfl), QOne.yes rfl rfl rfl (PV.move rfl), QOne.yes rfl rfl rfl (PV.lenStr rc_tstr9 rfl), QOne.yes rfl rfl rfl (PV.move rfl), QOne.yes rfl rfl rfl (PV.bin rfl rfl (BinV.sub _ rfl (by omega) (by omega))), QOne.yes rfl rfl rfl (PV.bin rfl rfl BinV.lss), QOne.yes rfl rfl rfl (PV.cast (congrArg Value.bool h10) (PV.move rfl)), QOne.yes rfl rfl rfl (PV.move rfl), QOne.yes rfl rfl rfl (PV.move rfl), QOne.yes rfl rfl rfl (PV.lenStr rc_tstr9 rfl), QOne.yes rfl rfl rfl (PV.move rfl), QOne.yes rfl rfl rfl (PV.bin rfl rfl (BinV.sub _ rfl (by omega) (by omega))), QOne.yes rfl rfl rfl (PV.bin rfl rfl BinV.lss), QOne.yes rfl rfl rfl (PV.pickT rfl rfl), QOne.yes rfl rfl rfl (PV.cast (congrArg Value.bool h12) (PV.move rfl)), QOne.yes rfl rfl rfl (PV.move rfl), QOne.yes rfl rfl rfl (PV.move rfl), QOne.yes rfl rfl rfl (PV.lenStr rc_tstr9 rfl), QOne.yes rfl rfl rfl (PV.bin rfl rfl (BinV.sub _ rfl (by omega) (by omega))), QOne.yes rfl rfl rfl (PV.move rfl), QOne.yes rfl rfl rfl (PV.bin rfl rfl (BinV.sub _ rfl (by omega) (by omega))), QOne.yes rfl rfl rfl (PV.indexS rc_tstr9 rfl rfl (by omega) (List.getElem?_eq_getElem hya)), QOne.yes rfl rfl rfl (PV.move rfl), QOne.yes rfl rfl rfl (PV.move rfl), QOne.yes rfl rfl rfl (PV.lenStr rc_tstr9 rfl), QOne.yes rfl rfl rfl (PV.bin rfl rfl (BinV.sub _ rfl (by omega) (by omega))), QOne.yes rfl rfl rfl (PV.move rfl), QOne.yes rfl rfl rfl (PV.bin rfl rfl (BinV.sub _ rfl (by omega) (by omega))), QOne.yes rfl rfl rfl (PV.indexS rc_tstr9 rfl rfl (by omega) (List.getElem?_eq_getElem hyb)), QOne.yes rfl rfl rfl (PV.bin rfl rfl BinV.eql), QOne.yes rfl rfl rfl (PV.pickT rfl rfl), trivial⟩ rfl rfl rfl ?_
            refine NX.sub (E' := [(0, _), (1, _), (5, _), (6, _), (31, _), (32, _), (33, _), (34, _), (35, _), (36, _), (37, _), (38, _), (39, _), (40, _), (41, _), (42, _), (43, _), (44, _), (45, _), (46, _), (47, _), (48, _), (49, _), (50, _), (51, _), (52, _), (53, _), (54, _), (55, _), (56, _), (57, _), (58, _), (59, _), (60, _), (61, _)]) ⟨rfl, rfl, rfl, rfl, rfl, rfl, rfl, rfl, rfl, rfl, rfl, rfl, rfl, rfl, rfl, rfl, rfl, rfl, rfl, rfl, rfl, rfl, rfl, rfl, rfl, rfl, rfl, rfl, rfl, rfl, rfl, rfl, rfl, rfl, rfl, trivial⟩ ?_
            refine NX.seq ?_
            refine TR.cond rfl (fun h14 => ?_) (fun h14 => ?_)
            · skip
              have hch : a[a.length - 1 - y]'(by omega) = b[b.length - 1 - y]'(by omega) := by
                have h8 := byte_eq (of_decide_eq_true h14)
                have e1 : (((a.length : Int) - 1) - y).toNat = a.length - 1 - y := by omega
                have e2 : (((b.length : Int) - 1) - y).toNat = b.length - 1 - y := by omega
                simp only [e1, e2] at h8
                exact h8
              refine TR.skip ?_
              refine NX.seq ?_
              refine TR.block ?_
              refine TR.region ?_
              refine RL.move rfl rfl rfl ?_
              refine RL.bin rfl rfl rfl (BinV.add _ rfl (by omega) (by omega)) rfl ?_
              refine RL.assign rfl rfl rfl ?_
              refine RL.nil ?_
              refine NX.off ?_
              refine NX.roundP (y + 1) ⟨by omega, by omega, suffix_step (by omega) (by omega) hy.2.2 hch⟩ (by omega) ⟨rfl, rfl, rfl, rfl, trivial⟩ (fun w hw => hw)
            · skip
              have hqy := suf_stop hy.1 hy.2.1 hy.2.2 (.inr (.inr ⟨hy1, hy2, fun h8 => by
                have e1 : (((a.length : Int) - 1) - y).toNat = a.length - 1 - y := by omega
                have e2 : (((b.length : Int) - 1) - y).toNat = b.length - 1 - y := by omega
                have h9 := of_decide_eq_false h14
                simp only [e1, e2] at h9
                exact h9 (by rw [h8])⟩))
              refine TR.exit ?_
              refine NX.exitThen ?_
              refine NX.exitThen ?_
              refine NX.exitHere ?_
              refine NX.seq ?_
              refine TR.seq ?_
              refine TR.region ?_
              refine RL.move rfl rfl rfl ?_
              refine RL.move rfl rfl rfl ?_
              refine RL.lenStr rfl rc_tstr9 rfl rfl ?_
              refine RL.move rfl rfl rfl ?_
              refine RL.bin rfl rfl rfl (BinV.sub _ rfl (by omega) (by omega)) rfl ?_
              refine RL.move rfl rfl rfl ?_
              refine RL.move rfl rfl rfl ?_
              refine RL.move rfl rfl rfl ?_
              refine RL.lenStr rfl rc_tstr9 rfl rfl ?_
              refine RL.move rfl rfl rfl ?_
              refine RL.bin rfl rfl rfl (BinV.sub _ rfl (by omega) (by omega)) rfl ?_
              refine RL.sliceS rfl rc_tstr9 rfl rfl rfl (by omega) (by omega) (by omega) rfl ?_
              refine RL.build rfl rfl (rc_bv78_0_1_2 _ _ _) rfl ?_
              refine RL.buildSlice rfl rfl (rc_bs26_1_0 _ _ _) rfl (fun b15 => ?_)
              refine RL.assign rfl rfl rfl ?_
              refine RL.nil ?_
              refine NX.seq ?_
              refine TR.ret ?_
              rw [diffE_is hab hpx hqy]
              have e1 : ((b.length : Int) - y).toNat = b.length - y := by omega
              have e2 : ((a.length : Int) - y) = ((a.length - y : Nat) : Int) := by omega
              refine NX.ret1x rfl rfl (fun w hw => ⟨⟨_, 1⟩, rfl, ?_⟩)
              have h9 := hw.boxArr
              rw [e1, e2, Int.toNat_natCast] at h9
              exact h9
      · skip
        have hx2 : x < b.length := by have := of_decide_eq_true h9; omega
        have hxb : (x : Int).toNat < b.length := by omega
        apply AR.more [(0, _), (1, _), (2, _), (3, _), (4, .bool true), (5, _), (6, _), (7, _), (8, _), (9, _), (10, .bool true), (11, _), (12, _), (13, _), (14, _), (15, _), (16, _), (17, _), (18, _)]
        refine AR.last [0, 1, 2, 3, 4, 5, 6, 7, 8, 9, 10, 11, 12, 13, 14, 15, 16, 17, 18] [0, 1, 2, 3, 4, 5, 6, 7, 8, 9, 10, 11, 12, 13, 14, 15, 16, 17, 18] ⟨QOne.yes rfl rfl rfl (PV.move rfl), QOne.yes rfl rfl rfl (PV.move rfl), QOne.yes rfl rfl rfl (PV.lenStr rc_tstr9 rfl), QOne.yes rfl rfl rfl (PV.bin rfl rfl BinV.lss), QOne.yes rfl rfl rfl (PV.cast (congrArg Value.bool h2) (PV.move rfl)), QOne.yes rfl rfl rfl (PV.move rfl), QOne.yes rfl rfl rfl (PV.move rfl), QOne.yes rfl rfl rfl (PV.lenStr rc_tstr9 rfl), QOne.yes rfl rfl rfl (PV.bin rfl rfl BinV.lss), QOne.yes rfl rfl rfl (PV.pickT rfl rfl), QOne.yes rfl rfl rfl (PV.cast (congrArg Value.bool h9) (PV.move rfl)), QOne.yes rfl rfl rfl (PV.move rfl), QOne.yes rfl rfl rfl (PV.move rfl), QOne.yes rfl rfl rfl (PV.indexS rc_tstr9 rfl rfl (by omega) (List.getElem?_eq_getElem hxa)), QOne.yes rfl rfl rfl (PV.move rfl), QOne.yes rfl rfl rfl (PV.move rfl), QOne.yes rfl rfl rfl (PV.indexS rc_tstr9 rfl rfl (by omega) (List.getElem?_eq_getElem hxb)), QOne.yes rfl rfl rfl (PV.bin rfl rfl BinV.eql), QOne.yes rfl rfl rfl (PV.pickT rfl rfl), trivial⟩ rfl rfl rfl ?_
        refine NX.sub (E' := [(0, _), (1, _), (5, _), (10, _), (11, _), (12, _), (13, _), (14, _), (15, _), (16, _), (17, _), (18, _), (19, _), (20, _), (21, _), (22, _), (23, _), (24, _), (25, _), (26, _), (27, _), (28, _)]) ⟨rfl, rfl, rfl, rfl, rfl, rfl, rfl, rfl, rfl, rfl, rfl, rfl, rfl, rfl, rfl, rfl, rfl, rfl, rfl, rfl, rfl, rfl, trivial⟩ ?_
        refine NX.seq ?_
        refine TR.cond rfl (fun h16 => ?_) (fun h16 => ?_)
        · skip
          have hch : a[x]'hx1 = b[x]'hx2 := byte_eq (of_decide_eq_true h16)
          refine TR.skip ?_
          refine NX.seq ?_
          refine TR.block ?_
          refine TR.region ?_
          refine RL.move rfl rfl rfl ?_
          refine RL.bin rfl rfl rfl (BinV.add _ rfl (by omega) (by omega)) rfl ?_
          refine RL.assign rfl rfl rfl ?_
          refine RL.nil ?_
          refine NX.off ?_
          refine NX.roundP (x + 1) ⟨by omega, by omega, takeEq_step hx1 hx2 hx.2.2 hch⟩ (by omega) ⟨rfl, rfl, rfl, trivial⟩ (fun w hw => hw)
        · skip
          have hpx : lcp a b = x := lcp_stop hx.1 hx.2.1 hx.2.2 (.inr (.inr (by rw [List.getElem?_eq_getElem hx1, List.getElem?_eq_getElem hx2]; exact fun e => of_decide_eq_false h16 (by simp only [Int.toNat_natCast]; rw [Option.some.inj e]))))
          refine TR.exit ?_
          refine NX.exitThen ?_
          refine NX.exitThen ?_
          refine NX.exitHere ?_
          refine NX.seq ?_
          refine TR.seq ?_
          refine TR.region ?_
          refine RL.assign rfl rfl rfl ?_
          refine RL.nil ?_
          refine NX.seq ?_
          refine TR.seq ?_
          refine TR.block ?_
          refine TR.loopP (ι := Nat) (fun y => x + y ≤ a.length ∧ x + y ≤ b.length ∧ a.drop (a.length - y) = b.drop (b.length - y)) (fun y => [(0, S a), (1, S b), (5, I x), (6, I y)]) (fun _ => M) (fun _ => F) (fun y => a.length - y) 0 ⟨hx.1, hx.2.1, by simp⟩ ⟨rfl, rfl, rfl, rfl, trivial⟩ (fun w hw => hw) (fun y hy => ?_)
          refine TR.seq ?_
          refine TR.seq ?_
          refine TR.sub (E' := [(0, _), (1, _), (5, _), (6, _)]) ⟨rfl, rfl, rfl, rfl, trivial⟩ ?_
          refine TR.draw mixed ?_
          cases h17 : decide ((y : Int) < (a.length : Int) - x)
          · skip
            have hqy := suf_stop hy.1 hy.2.1 hy.2.2 (by have := of_decide_eq_false h17; omega)
            apply AR.more [(0, _), (1, _), (2, _), (3, _), (4, _), (5, _), (6, .bool false), (7, undef), (8, undef), (9, undef), (10, undef), (11, undef), (12, undef), (13, .bool false), (14, .bool false), (15, undef), (16, undef), (17, undef), (18, undef), (19, undef), (20, undef), (21, undef), (22, undef), (23, undef), (24, undef), (25, undef), (26, undef), (27, undef), (28, undef), (29, undef), (30, .bool false)]
            refine AR.last [0, 1, 2, 3, 4, 5, 6, 7, 8, 9, 10, 11, 12, 13, 14, 15, 16, 17, 18, 19, 20, 21, 22, 23, 24, 25, 26, 27, 28, 29, 30] [0, 1, 2, 3, 4, 5, 6, 7, 8, 9, 10, 11, 12, 13, 14, 15, 16, 17, 18, 19, 20, 21, 22, 23, 24, 25, 26, 27, 28, 29, 30] ⟨QOne.yes rfl rfl rfl (PV.move rfl), QOne.yes rfl rfl rfl (PV.move rfl), QOne.yes rfl rfl rfl (PV.lenStr rc_tstr9 rfl), QOne.yes rfl rfl rfl (PV.move rfl), QOne.yes rfl rfl rfl (PV.bin rfl rfl (BinV.sub _ rfl (by omega) (by omega))), QOne.yes rfl rfl rfl (PV.bin rfl rfl BinV.lss), QOne.yes rfl rfl rfl (PV.cast (congrArg Value.bool h17) (PV.move rfl)), QOne.no rfl rfl rfl, QOne.no rfl rfl rfl, QOne.no rfl rfl rfl, QOne.no rfl rfl rfl, QOne.no rfl rfl rfl, QOne.no rfl rfl rfl, QOne.yes rfl rfl rfl (PV.pickF rfl rfl), QOne.yes rfl rfl rfl (PV.move rfl), QOne.no rfl rfl rfl, QOne.no rfl rfl rfl, QOne.no rfl rfl rfl, QOne.no rfl rfl rfl, QOne.no rfl rfl rfl, QOne.no rfl rfl rfl, QOne.no rfl rfl rfl, QOne.no rfl rfl rfl, QOne.no rfl rfl rfl, QOne.no rfl rfl rfl, QOne.no rfl rfl rfl, QOne.no rfl rfl rfl, QOne.no rfl rfl rfl, QOne.no rfl rfl rfl, QOne.no rfl rfl rfl, QOne.yes rfl rfl rfl (PV.pickF rfl rfl), trivial⟩ rfl rfl rfl ?_
            refine NX.sub (E' := [(0, _), (1, _), (5, _), (6, _), (31, _), (32, _), (33, _), (34, _), (35, _), (36, _), (37, _), (38, _), (39, _), (40, _), (41, _), (42, _), (43, _), (44, _), (45, _), (46, _), (47, _), (48, _), (49, _), (50, _), (51, _), (52, _), (53, _), (54, _), (55, _), (56, _), (57, _), (58, _), (59, _), (60, _), (61, _)]) ⟨rfl, rfl, rfl, rfl, rfl, rfl, rfl, rfl, rfl, rfl, rfl, rfl, rfl, rfl, rfl, rfl, rfl, rfl, rfl, rfl, rfl, rfl, rfl, rfl, rfl, rfl, rfl, rfl, rfl, rfl, rfl, rfl, rfl, rfl, rfl, trivial⟩ ?_
            refine NX.seq ?_
            refine TR.condF rfl ?_
            refine TR.exit ?_
            refine NX.exitThen ?_
            refine NX.exitThen ?_
            refine NX.exitHere ?_
            refine NX.seq ?_
            refine TR.seq ?_
            refine TR.region ?_
            refine RL.move rfl rfl rfl ?_
            refine RL.move rfl rfl rfl ?_
            refine RL.lenStr rfl rc_tstr9 rfl rfl ?_
            refine RL.move rfl rfl rfl ?_
            refine RL.bin rfl rfl rfl (BinV.sub _ rfl (by omega) (by omega)) rfl ?_
            refine RL.move rfl rfl rfl ?_
            refine RL.move rfl rfl rfl ?_
            refine RL.move rfl rfl rfl ?_
            refine RL.lenStr rfl rc_tstr9 rfl rfl ?_
            refine RL.move rfl rfl rfl ?_
            refine RL.bin rfl rfl rfl (BinV.sub _ rfl (by omega) (by omega)) rfl ?_
            refine RL.sliceS rfl rc_tstr9 rfl rfl rfl (by omega) (by omega) (by omega) rfl ?_
            refine RL.build rfl rfl (rc_bv78_0_1_2 _ _ _) rfl ?_
            refine RL.buildSlice rfl rfl (rc_bs26_1_0 _ _ _) rfl (fun b18 => ?_)
            refine RL.assign rfl rfl rfl ?_
            refine RL.nil ?_
            refine NX.seq ?_
            refine TR.ret ?_
            rw [diffE_is hab hpx hqy]
            have e1 : ((b.length : Int) - y).toNat = b.length - y := by omega
            have e2 : ((a.length : Int) - y) = ((a.length - y : Nat) : Int) := by omega
            refine NX.ret1x rfl rfl (fun w hw => ⟨⟨_, 1⟩, rfl, ?_⟩)
            have h9 := hw.boxArr
            rw [e1, e2, Int.toNat_natCast] at h9
            exact h9
          · skip
            have hy1 : x + y < a.length := by have := of_decide_eq_true h17; omega
            have hya : (((a.length : Int) - 1) - y).toNat < a.length := by omega
            cases h19 : decide ((y : Int) < (b.length : Int) - x)
            · skip
              have hqy := suf_stop hy.1 hy.2.1 hy.2.2 (by have := of_decide_eq_false h19; omega)
              apply AR.more [(0, _), (1, _), (2, _), (3, _), (4, _), (5, _), (6, .bool true), (7, _), (8, _), (9, _), (10, _), (11, _), (12, _), (13, _), (14, .bool false), (15, undef), (16, undef), (17, undef), (18, undef), (19, undef), (20, undef), (21, undef), (22, undef), (23, undef), (24, undef), (25, undef), (26, undef), (27, undef), (28, undef), (29, undef), (30, .bool false)]
              refine AR.last [0, 1, 2, 3, 4, 5, 6, 7, 8, 9, 10, 11, 12, 13, 14, 15, 16, 17, 18, 19, 20, 21, 22, 23, 24, 25, 26, 27, 28, 29, 30] [0, 1, 2, 3, 4, 5, 6, 7, 8, 9, 10, 11, 12, 13, 14, 15, 16, 17, 18, 19, 20, 21, 22, 23, 24, 25, 26, 27, 28, 29, 30] ⟨QOne.yes rfl rfl rfl (PV.move rfl), QOne.yes rfl rfl rfl (PV.move rfl), QOne.yes rfl rfl rfl (PV.lenStr rc_tstr9 rfl), QOne.yes rfl rfl rfl (PV.move rfl), QOne.yes rfl rfl rfl (PV.bin rfl rfl (BinV.sub _ rfl (by omega) (by omega))), QOne.yes rfl rfl rfl (PV.bin rfl rfl BinV.lss), QOne.yes rfl rfl rfl (PV.cast (congrArg Value.bool h17) (PV.move rfl)), QOne.yes rfl rfl rfl (PV.move rfl), QOne.yes rfl rfl rfl (PV.move rfl), QOne.yes rfl rfl rfl (PV.lenStr rc_tstr9 rfl), QOne.yes rfl rfl rfl (PV.move rfl), QOne.yes rfl rfl rfl (PV.bin rfl rfl (BinV.sub _ rfl (by omega) (by omega))), QOne.yes rfl rfl rfl (PV.bin rfl rfl BinV.lss), QOne.yes rfl rfl rfl (PV.pickT rfl rfl), QOne.yes rfl rfl rfl (PV.cast (congrArg Value.bool h19) (PV.move rfl)), QOne.no rfl rfl rfl, QOne.no rfl rfl rfl, QOne.no rfl rfl rfl, QOne.no rfl rfl rfl, QOne.no rfl rfl rfl, QOne.no rfl rfl rfl, QOne.no rfl rfl rfl, QOne.no rfl rfl rfl, QOne.no rfl rfl rfl, QOne.no rfl rfl rfl, QOne.no rfl rfl rfl, QOne.no rfl rfl rfl, QOne.no rfl rfl rfl, QOne.no rfl rfl rfl, QOne.no rfl rfl rfl, QOne.yes rfl rfl rfl (PV.pickF rfl rfl), trivial⟩ rfl rfl rfl ?_
              refine NX.sub (E' := [(0, _), (1, _), (5, _), (6, _), (31, _), (32, _), (33, _), (34, _), (35, _), (36, _), (37, _), (38, _), (39, _), (40, _), (41, _), (42, _), (43, _), (44, _), (45, _), (46, _), (47, _), (48, _), (49, _), (50, _), (51, _), (52, _), (53, _), (54, _), (55, _), (56, _), (57, _), (58, _), (59, _), (60, _), (61, _)]) ⟨rfl, rfl, rfl, rfl, rfl, rfl, rfl, rfl, rfl, rfl, rfl, rfl, rfl, rfl, rfl, rfl, rfl, rfl, rfl, rfl, rfl, rfl, rfl, rfl, rfl, rfl, rfl, rfl, rfl, rfl, rfl, rfl, rfl, rfl, rfl, trivial⟩ ?_
              refine NX.seq ?_
              refine TR.condF rfl ?_
              refine TR.exit ?_
              refine NX.exitThen ?_
              refine NX.exitThen ?_
              refine NX.exitHere ?_
              refine NX.seq ?_
              refine TR.seq ?_
              refine TR.region ?_
              refine RL.move rfl rfl rfl ?_
              refine RL.move rfl rfl rfl ?_
              refine RL.lenStr rfl rc_tstr9 rfl rfl ?_
              refine RL.move rfl rfl rfl ?_
              refine RL.bin rfl rfl rfl (BinV.sub _ rfl (by omega) (by omega)) rfl ?_
              refine RL.move rfl rfl rfl ?_
              refine RL.move rfl rfl rfl ?_
              refine RL.move rfl rfl rfl ?_
              refine RL.lenStr rfl rc_tstr9 rfl rfl ?_
              refine RL.move rfl rfl rfl ?_
              refine RL.bin rfl rfl rfl (BinV.sub _ rfl (by omega) (by omega)) rfl ?_
              refine RL.sliceS rfl rc_tstr9 rfl rfl rfl (by omega) (by omega) (by omega) rfl ?_
              refine RL.build rfl rfl (rc_bv78_0_1_2 _ _ _) rfl ?_
              refine RL.buildSlice rfl rfl (rc_bs26_1_0 _ _ _) rfl (fun b20 => ?_)
              refine RL.assign rfl rfl rfl ?_
              refine RL.nil ?_
              refine NX.seq ?_
              refine TR.ret ?_
              rw [diffE_is hab hpx hqy]
              have e1 : ((b.length : Int) - y).toNat = b.length - y := by omega
              have e2 : ((a.length : Int) - y) = ((a.length - y : Nat) : Int) := by omega
              refine NX.ret1x rfl rfl (fun w hw => ⟨⟨_, 1⟩, rfl, ?_⟩)
              have h9 := hw.boxArr
              rw [e1, e2, Int.toNat_natCast] at h9
              exact h9
            · skip
              have hy2 : x + y < b.length := by have := of_decide_eq_true h19; omega
              have hyb : (((b.length : Int) - 1) - y).toNat < b.length := by omega
              apply AR.more [(0, _), (1, _), (2, _), (3, _), (4, _), (5, _), (6, .bool true), (7, _), (8, _), (9, _), (10, _), (11, _), (12, _), (13, _), (14, .bool true), (15, _), (16, _), (17, _), (18, _), (19, _), (20, _), (21, _), (22, _), (23, _), (24, _), (25, _), (26, _), (27, _), (28, _), (29, _), (30, _)]
              refine AR.last [0, 1, 2, 3, 4, 5, 6, 7, 8, 9, 10, 11, 12, 13, 14, 15, 16, 17, 18, 19, 20, 21, 22, 23, 24, 25, 26, 27, 28, 29, 30] [0, 1, 2, 3, 4, 5, 6, 7, 8, 9, 10, 11, 12, 13, 14, 15, 16, 17, 18, 19, 20, 21, 22, 23, 24, 25, 26, 27, 28, 29, 30] ⟨QOne.yes rfl rfl rfl (PV.move rfl), QOne.yes rfl rfl rfl (PV.move rfl), QOne.yes rfl rfl rfl (PV.lenStr rc_tstr9 rfl), QOne.yes rfl rfl rfl (PV.move rfl), QOne.yes rfl rfl rfl (PV.bin rfl rfl (BinV.sub _ rfl (by omega) (by omega))), QOne.yes rfl rfl rfl (PV.bin rfl rfl BinV.lss), QOne.yes rfl rfl rfl (PV.cast (congrArg Value.bool h17) (PV.move rfl)), QOne.yes rfl rfl rfl (PV.move rfl), QOne.yes rfl rfl rfl (PV.move rfl), QOne.yes rfl rfl rfl (PV.lenStr rc_tstr9 rfl), QOne.yes rfl rfl rfl (PV.move rfl), QOne.yes rfl rfl rfl (PV.bin rfl rfl (BinV.sub _ rfl (by omega) (by omega))), QOne.yes rfl rfl rfl (PV.bin rfl rfl BinV.lss), QOne.yes rfl rfl rfl (PV.pickT rfl rfl), QOne.yes rfl rfl rfl (PV.cast (congrArg Value.bool h19) (PV.move rfl)), QOne.yes rfl rfl rfl (PV.move rfl), QOne.yes rfl rfl rfl (PV.move rfl), QOne.yes rfl rfl rfl (PV.lenStr rc_tstr9 rfl), QOne.yes rfl rfl rfl (PV.bin rfl rfl (BinV.sub _ rfl (by omega) (by omega))), QOne.yes rfl rfl rfl (PV.move rfl), QOne.yes rfl rfl rfl (PV.bin rfl rfl (BinV.sub _ rfl (by omega) (by omega))), QOne.yes rfl rfl rfl (PV.indexS rc_tstr9 rfl rfl (by omega) (List.getElem?_eq_getElem hya)), QOne.yes rfl rfl rfl (PV.move rfl), QOne.yes rfl rfl rfl (PV.move rfl), QOne.yes rfl rfl rfl (PV.lenStr rc_tstr9 rfl), QOne.yes rfl rfl rfl (PV.bin rfl rfl (BinV.sub _ rfl (by omega) (by omega))), QOne.yes rfl rfl rfl (PV.move rfl), QOne.yes rfl rfl rfl (PV.bin rfl rfl (BinV.sub _ rfl (by omega) (by omega))), QOne.yes rfl rfl rfl (PV.indexS rc_tstr9 rfl rfl (by omega) (List.getElem?_eq_getElem hyb)), QOne.yes rfl rfl rfl (PV.bin rfl rfl BinV.eql), QOne.yes rfl rfl rfl (PV.pickT rfl rfl), trivial⟩ rfl rfl rfl ?_
              refine NX.sub (E' := [(0, _), (1, _), (5, _), (6, _), (31, _), (32, _), (33, _), (34, _), (35, _), (36, _), (37, _), (38, _), (39, _), (40, _), (41, _), (42, _), (43, _), (44, _), (45, _), (46, _), (47, _), (48, _), (49, _), (50, _), (51, _), (52, _), (53, _), (54, _), (55, _), (56, _), (57, _), (58, _), (59, _), (60, _), (61, _)]) ⟨rfl, rfl, rfl, rfl, rfl, rfl, rfl, rfl, rfl, rfl, rfl, rfl, rfl, rfl, rfl, rfl, rfl, rfl, rfl, rfl, rfl, rfl, rfl, rfl, rfl, rfl, rfl, rfl, rfl, rfl, rfl, rfl, rfl, rfl, rfl, trivial⟩ ?_
              refine NX.seq ?_
              refine TR.cond rfl (fun h21 => ?_) (fun h21 => ?_)
              · skip
                have hch : a[a.length - 1 - y]'(by omega) = b[b.length - 1 - y]'(by omega) := by
                  have h8 := byte_eq (of_decide_eq_true h21)
                  have e1 : (((a.length : Int) - 1) - y).toNat = a.length - 1 - y := by omega
                  have e2 : (((b.length : Int) - 1) - y).toNat = b.length - 1 - y := by omega
                  simp only [e1, e2] at h8
                  exact h8
                refine TR.skip ?_
                refine NX.seq ?_
                refine TR.block ?_
                refine TR.region ?_
                refine RL.move rfl rfl rfl ?_
                refine RL.bin rfl rfl rfl (BinV.add _ rfl (by omega) (by omega)) rfl ?_
                refine RL.assign rfl rfl rfl ?_
                refine RL.nil ?_
                refine NX.off ?_
                refine NX.roundP (y + 1) ⟨by omega, by omega, suffix_step (by omega) (by omega) hy.2.2 hch⟩ (by omega) ⟨rfl, rfl, rfl, rfl, trivial⟩ (fun w hw => hw)
              · skip
                have hqy := suf_stop hy.1 hy.2.1 hy.2.2 (.inr (.inr ⟨hy1, hy2, fun h8 => by
                  have e1 : (((a.length : Int) - 1) - y).toNat = a.length - 1 - y := by omega
                  have e2 : (((b.length : Int) - 1) - y).toNat = b.length - 1 - y := by omega
                  have h9 := of_decide_eq_false h21
                  simp only [e1, e2] at h9
                  exact h9 (by rw [h8])⟩))
                refine TR.exit ?_
                refine NX.exitThen ?_
                refine NX.exitThen ?_
                refine NX.exitHere ?_
                refine NX.seq ?_
                refine TR.seq ?_
                refine TR.region ?_
                refine RL.move rfl rfl rfl ?_
                refine RL.move rfl rfl rfl ?_
                refine RL.lenStr rfl rc_tstr9 rfl rfl ?_
                refine RL.move rfl rfl rfl ?_
                refine RL.bin rfl rfl rfl (BinV.sub _ rfl (by omega) (by omega)) rfl ?_
                refine RL.move rfl rfl rfl ?_
                refine RL.move rfl rfl rfl ?_
                refine RL.move rfl rfl rfl ?_
                refine RL.lenStr rfl rc_tstr9 rfl rfl ?_
                refine RL.move rfl rfl rfl ?_
                refine RL.bin rfl rfl rfl (BinV.sub _ rfl (by omega) (by omega)) rfl ?_
                refine RL.sliceS rfl rc_tstr9 rfl rfl rfl (by omega) (by omega) (by omega) rfl ?_
                refine RL.build rfl rfl (rc_bv78_0_1_2 _ _ _) rfl ?_
                refine RL.buildSlice rfl rfl (rc_bs26_1_0 _ _ _) rfl (fun b22 => ?_)
                refine RL.assign rfl rfl rfl ?_
                refine RL.nil ?_
                refine NX.seq ?_
                refine TR.ret ?_
                rw [diffE_is hab hpx hqy]
                have e1 : ((b.length : Int) - y).toNat = b.length - y := by omega
                have e2 : ((a.length : Int) - y) = ((a.length - y : Nat) : Int) := by omega
                refine NX.ret1x rfl rfl (fun w hw => ⟨⟨_, 1⟩, rfl, ?_⟩)
                have h9 := hw.boxArr
                rw [e1, e2, Int.toNat_natCast] at h9
                exact h9
end Go.Proofs.Ytkdeopioelocnaa

namespace Go.Proofs.Ytkdeopioelocnaa
open Go.GL
set_option linter.unusedVariables false
theorem rd_bs26_1_0 (x00 : Int) (x01 : Int) (x02 : List UInt8) : BuildSV Try.prog 26 78 1 [(0, .agg #[.int .i64 x00, .int .i64 x01, S x02])] [.int .i64 x00, .int .i64 x01, S x02] := fun w => by kernel_rfl
theorem rd_bv78_0_1_2 (x0 : Int) (x1 : Int) (x2 : List UInt8) : BuildV Try.prog 78 [(0, .int .i64 x0), (1, .int .i64 x1), (2, S x2)] (.agg #[.int .i64 x0, .int .i64 x1, S x2]) := fun w => by kernel_rfl
theorem rd_ni26 : noInt Try.prog 26 = true := by kernel_rfl
theorem rd_te78 : tyElem Try.prog 78 3 32 = true := by kernel_rfl
theorem rd_tl22 : tySlice Try.prog 22 3 = true := by kernel_rfl
theorem rd_tl26 : tySlice Try.prog 26 78 = true := by kernel_rfl
theorem rd_ts3 : tyScalar Try.prog 3 = true := by kernel_rfl
theorem rd_tstr9 : tyStr Try.prog 9 = true := by kernel_rfl
theorem rd_tz3 : tySize Try.prog 3 1 = true := by kernel_rfl
theorem rnormal_specN {tx : List UInt8} {es : List Ed} {n : Nat} {oa : Option Addr} {ca : Nat} {M : List HP} {F : List Fact} (hn : es.length = n) (ha : ArrF oa (edC es) ∈ F) (hin : ∀ e, e ∈ es → EdIn tx.length e) (hl : tx.length ≤ 1099511627776) (htm : txs es ≤ 1099511627776) (hel : es.length ≤ 2199023255552) : Ctr Try.prog 84 [S tx, .slice oa n ca] M F RdX (fun z => .slice z.oa (normE tx es).length z.c) (fun _ => M) (fun z => ArrF z.oa (edC (normE tx es)) :: F) := by
  subst hn; exact rnormal_spec ha hin hl htm hel
theorem getD_at {L : List Int} {k : Nat} {d : Int} (hk : k < L.length) : L.getD k d = L[k] := by rw [List.getD_eq_getElem?_getD, List.getElem?_eq_getElem hk]; rfl
set_option maxHeartbeats 1000000 in
theorem rcompose_spec {tx : List UInt8} {a b : List Ed} {oa ob : Option Addr} {ca cb : Nat} {M : List HP} {F : List Fact} (ha : ArrF oa (edC a) ∈ F) (hb : ArrF ob (edC b) ∈ F) (hl : tx.length ≤ 1099511627776) (hal : a.length ≤ 1099511627776) (hbl : b.length ≤ 1099511627776) (hq1 : soundE tx.length a = 0 → (applyGo tx 0 a).length ≤ 1099511627776) (hq2 : soundE tx.length a = 0 → soundE (applyGo tx 0 a).length b = 0 → (applyGo (applyGo tx 0 a) 0 b).length ≤ 549755813888) : Ctr Try.prog 63 [S tx, .slice oa a.length ca, .slice ob b.length cb] M F RdX (fun z => .tuple #[.slice z.oa (composeE tx a b).1.length z.c, I (composeE tx a b).2]) (fun _ => M) (fun z => ArrF z.oa (edC (composeE tx a b).1) :: F) := by
  refine Ctr.body Try.func63 rfl rfl ?_
  refine TR.seq ?_
  refine TR.region ?_
  refine RL.assign rfl rfl rfl ?_
  refine RL.assign rfl rfl rfl ?_
  refine RL.nil ?_
  refine NX.seq ?_
  refine TR.seq ?_
  refine TR.region ?_
  refine RL.move rfl rfl rfl ?_
  refine RL.move rfl rfl rfl ?_
  refine RL.call rfl rfl Try.call44 rfl (rapply_spec (s := tx) (es := a) ha (by omega) (by omega) (fun e => by have := hq1 e; omega)) (fun _ => ?_)
  refine RL.move rfl rfl rfl ?_
  refine RL.extract rfl rfl rfl rfl ?_
  refine RL.extract rfl rfl rfl rfl ?_
  refine RL.assign rfl rfl rfl ?_
  refine RL.assign rfl rfl rfl ?_
  refine RL.nil ?_
  refine NX.seq ?_
  refine TR.seq ?_
  refine TR.seq ?_
  refine TR.region ?_
  refine RL.move rfl rfl rfl ?_
  refine RL.bin rfl rfl rfl BinV.neq rfl ?_
  refine RL.nil ?_
  refine NX.seq ?_
  refine TR.cond rfl (fun h1 => ?_) (fun h1 => ?_)
  · skip
    have hz : ¬ soundE tx.length a = 0 := fun e => of_decide_eq_true h1 (by rw [applyE_err]; exact e)
    refine TR.seq ?_
    refine TR.region ?_
    refine RL.move rfl rfl rfl ?_
    refine RL.assign rfl rfl rfl ?_
    refine RL.assign rfl rfl rfl ?_
    refine RL.nil ?_
    refine NX.seq ?_
    refine TR.ret ?_
    refine NX.retThen ?_
    have hce : composeE tx a b = ([], soundE tx.length a) := if_neg hz
    refine NX.ret2 (⟨none, 0⟩ : RdX) rfl rfl rfl (by rw [hce]; show Value.tuple #[.slice none 0 0, I (applyE tx a).2] = Value.tuple #[.slice none 0 0, I (soundE tx.length a)]; rw [applyE_err]) (fun w hw => ?_)
    rw [hce]
    exact ((hw.to 0 [] 0 [] rfl) : St w M F).arr0
  · skip
    have hz1 : soundE tx.length a = 0 := by have h9 := Decidable.not_not.1 (of_decide_eq_false h1); rw [applyE_err] at h9; exact h9
    rw [applyE_ok hz1]
    have hq1 := hq1 hz1
    have hq2 := hq2 hz1
    refine TR.skip ?_
    refine NX.seq ?_
    refine TR.seq ?_
    refine TR.region ?_
    refine RL.move rfl rfl rfl ?_
    refine RL.move rfl rfl rfl ?_
    refine RL.call rfl rfl Try.call44 rfl (rapply_spec (s := (applyGo tx 0 a)) (es := b) hb (by omega) (by omega) (fun e => by have := hq2 e; omega)) (fun _ => ?_)
    refine RL.move rfl rfl rfl ?_
    refine RL.extract rfl rfl rfl rfl ?_
    refine RL.extract rfl rfl rfl rfl ?_
    refine RL.assign rfl rfl rfl ?_
    refine RL.assign rfl rfl rfl ?_
    refine RL.nil ?_
    refine NX.seq ?_
    refine TR.seq ?_
    refine TR.seq ?_
    refine TR.region ?_
    refine RL.move rfl rfl rfl ?_
    refine RL.bin rfl rfl rfl BinV.neq rfl ?_
    refine RL.nil ?_
    refine NX.seq ?_
    refine TR.cond rfl (fun h2 => ?_) (fun h2 => ?_)
    · skip
      have hz2 : ¬ soundE (applyGo tx 0 a).length b = 0 := fun e => of_decide_eq_true h2 (by rw [applyE_err]; exact e)
      refine TR.seq ?_
      refine TR.region ?_
      refine RL.move rfl rfl rfl ?_
      refine RL.assign rfl rfl rfl ?_
      refine RL.assign rfl rfl rfl ?_
      refine RL.nil ?_
      refine NX.seq ?_
      refine TR.ret ?_
      refine NX.retThen ?_
      have hce : composeE tx a b = ([], soundE (applyGo tx 0 a).length b) := (if_pos hz1).trans (if_neg hz2)
      refine NX.ret2 (⟨none, 0⟩ : RdX) rfl rfl rfl (by rw [hce]; show Value.tuple #[.slice none 0 0, I (applyE (applyGo tx 0 a) b).2] = Value.tuple #[.slice none 0 0, I (soundE (applyGo tx 0 a).length b)]; rw [applyE_err]) (fun w hw => ?_)
      rw [hce]
      exact ((hw.to 0 [] 0 [] rfl) : St w M F).arr0
    · skip
      have hz2p : soundE (applyGo tx 0 a).length b = 0 := by have h9 := Decidable.not_not.1 (of_decide_eq_false h2); rw [applyE_err] at h9; exact h9
      rw [applyE_ok hz2p]
      have hq2 := hq2 hz2p
      have hs1 := soundE_sound1 hz1
      obtain ⟨tt, htt⟩ : ∃ tt, tt = (applyGo tx 0 a) := ⟨_, rfl⟩
      have hs2 : sound1 tt.length 0 b = 0 := by rw [htt]; exact soundE_sound1 hz2p
      obtain ⟨uu, huu⟩ : ∃ uu, uu = applyGo tt 0 b := ⟨_, rfl⟩
      obtain ⟨f1, hf1⟩ : ∃ f1, f1 = srcL tx.length 0 a := ⟨_, rfl⟩
      obtain ⟨g2, hg2⟩ : ∃ g2, g2 = srcL tt.length 0 b := ⟨_, rfl⟩
      rw [← htt] at hq1 hq2
      rw [← huu] at hq2
      rw [← htt, ← huu]
      have e1 := (apply_sum (s := tx) (q := 0) (Nat.zero_le _) hs1).1
      have e2 := (apply_sum (s := tt) (q := 0) (Nat.zero_le _) hs2).1
      rw [← htt] at e1; rw [← huu] at e2
      have l1 := src_len (Int.le_refl 0) (by omega) hs1
      have l2 := src_len (Int.le_refl 0) (by omega) hs2
      rw [← hf1] at l1; rw [← hg2] at l2
      have r1 := src_rng (Int.le_refl 0) hs1
      have r2 := src_rng (Int.le_refl 0) hs2
      rw [← hf1] at r1; rw [← hg2] at r2
      obtain ⟨C, hC⟩ : ∃ C, C = compS f1 g2 := ⟨_, rfl⟩
      have hri := ref_in hs1 htt hs2 huu
      rw [← hf1, ← hg2, ← hC] at hri
      obtain ⟨hCl, hRin⟩ := hri
      have hcr := comp_rng (g := g2) r1
      rw [← hC] at hcr
      have hcl := compose_src hs1 htt hs2 huu
      rw [← hf1, ← hg2, ← hC] at hcl
      obtain ⟨R, hR⟩ : ∃ R, R = refFin tx.length (refSt uu C) := ⟨_, rfl⟩
      rw [← hR] at hcl hRin
      rw [huu, htt] at hcl
      have hb9 := ref_bound (u := uu) (c := C) (n := tx.length) (by omega) (fun g hg => by have := hcr g hg; omega)
      have hRb := fin_bound (n := tx.length) (R := refSt uu C) (m := uu.length) (by have := (hb9 uu.length).1; rw [ref_all hCl] at this; exact this) (by have := (hb9 uu.length).2.1; rw [ref_all hCl] at this; exact this)
      rw [← hR] at hRb
      refine TR.skip ?_
      refine NX.seq ?_
      refine TR.seq ?_
      refine TR.region ?_
      refine RL.move rfl rfl rfl ?_
      refine RL.lenStr rfl rd_tstr9 rfl rfl ?_
      refine RL.move rfl rfl rfl ?_
      refine RL.call rfl rfl Try.call83 rfl (sources_spec (size := (tx.length : Int)) (es := a) ha hs1 (by omega) (by omega) (by omega) (by rw [← hf1]; omega)) (fun z1 => ?_)
      rw [← hf1]
      refine RL.assign rfl rfl rfl ?_
      refine RL.nil ?_
      refine NX.seq ?_
      refine TR.seq ?_
      refine TR.region ?_
      refine RL.move rfl rfl rfl ?_
      refine RL.lenStr rfl rd_tstr9 rfl rfl ?_
      refine RL.move rfl rfl rfl ?_
      refine RL.call rfl rfl Try.call83 rfl (sources_spec (size := (tt.length : Int)) (es := b) (.tail _ hb) hs2 (by omega) (by omega) (by omega) (by rw [← hg2]; omega)) (fun z2 => ?_)
      rw [← hg2]
      refine RL.assign rfl rfl rfl ?_
      refine RL.nil ?_
      refine NX.seq ?_
      refine TR.seq ?_
      refine TR.region ?_
      refine RL.assign rfl rfl rfl ?_
      refine RL.weak (fun w hw => OwnSl.nil_new 78 3 hw) ?_
      refine RL.nil ?_
      refine NX.seq ?_
      refine TR.seq ?_
      refine TR.region ?_
      refine RL.assign rfl rfl rfl ?_
      refine RL.nil ?_
      refine NX.seq ?_
      refine TR.seq ?_
      refine TR.region ?_
      refine RL.assign rfl rfl rfl ?_
      refine RL.nil ?_
      refine NX.seq ?_
      refine TR.seq ?_
      refine TR.seq ?_
      refine TR.region ?_
      refine RL.assign rfl rfl rfl ?_
      refine RL.nil ?_
      refine NX.seq ?_
      refine TR.block ?_
      refine TR.loopP (ι := CmX) (fun x => x.k ≤ uu.length + 1 ∧ ((x.k ≤ uu.length ∧ x.st = ((uu.zip C).take x.k).foldl refStep ([], 0, [])) ∨ (x.k = uu.length + 1 ∧ x.st.1 = refFin tx.length (refSt uu C)))) (fun x => [(0, S tx), (10, S uu), (12, .slice z1.1 f1.length z1.2), (13, .slice z2.1 g2.length z2.2), (14, .slice x.oa x.st.1.length x.c), (15, I x.st.2.1), (16, S x.st.2.2), (17, I (x.k : Nat))]) (fun x => OwnSl 78 3 x.oa x.st.1.length x.c (edC x.st.1) :: M) (fun x => ArrF z1.1 (ints f1) :: ArrF z2.1 (ints g2) :: F) (fun x => uu.length + 1 - x.k) ⟨0, ([], 0, []), none, 0⟩ ⟨Nat.zero_le _, .inl ⟨Nat.zero_le _, rfl⟩⟩ ⟨rfl, rfl, rfl, rfl, rfl, rfl, rfl, rfl, trivial⟩ (fun w hw => (hw.to 1 [0] 2 [1, 0] rfl)) (fun x hx => ?_)
      refine TR.seq ?_
      refine TR.seq ?_
      refine TR.region ?_
      refine RL.move rfl rfl rfl ?_
      refine RL.move rfl rfl rfl ?_
      refine RL.lenStr rfl rd_tstr9 rfl rfl ?_
      refine RL.bin rfl rfl rfl BinV.leq rfl ?_
      refine RL.nil ?_
      refine NX.seq ?_
      refine TR.cond rfl (fun h3 => ?_) (fun h3 => ?_)
      · skip
        have hkl : x.k ≤ uu.length := by have := of_decide_eq_true h3; omega
        have hst : x.st = ((uu.zip C).take x.k).foldl refStep ([], 0, []) := by
          rcases hx.2 with h | h
          · exact h.2
          · omega
        have hbd := hb9 x.k
        rw [← hst] at hbd
        obtain ⟨fr, hfr0⟩ : ∃ fr, C.getD x.k (-1) = fr := ⟨_, rfl⟩
        refine TR.skip ?_
        refine NX.seq ?_
        refine TR.seq ?_
        refine TR.block ?_
        refine TR.seq ?_
        refine TR.region ?_
        refine RL.assign rfl rfl rfl ?_
        refine RL.nil ?_
        refine NX.seq ?_
        refine TR.cut (ι := Unit) (fun _ => [(0, S tx), (10, S uu), (12, .slice z1.1 f1.length z1.2), (13, .slice z2.1 g2.length z2.2), (14, .slice x.oa x.st.1.length x.c), (15, I x.st.2.1), (16, S x.st.2.2), (17, I (x.k : Nat)), (18, I fr)]) (fun _ => OwnSl 78 3 x.oa x.st.1.length x.c (edC x.st.1) :: M) (fun _ => ArrF z2.1 (ints g2) :: ArrF z1.1 (ints f1) :: F) ?_ (fun _ => ?_)
        · skip
          refine TR.seq ?_
          refine TR.region ?_
          refine RL.move rfl rfl rfl ?_
          refine RL.move rfl rfl rfl ?_
          refine RL.lenStr rfl rd_tstr9 rfl rfl ?_
          refine RL.bin rfl rfl rfl BinV.lss rfl ?_
          refine RL.move rfl rfl rfl ?_
          refine RL.part (fun h4 => ?_) (fun h4 => ?_)
          · skip
            have hku := of_decide_eq_true h4
            have hkg : x.k < g2.length := by omega
            refine RL.openP (open_arr (oa := z2.1) (xs := ints g2) (.tail _ (.head _)) (ints_ne (by omega))) (fun pg hpg => ?_)
            refine RL.move rfl rfl rfl ?_
            refine RL.move rfl rfl rfl ?_
            refine RL.indexAddr rfl rd_tl22 rd_tz3 (congrArg (fun a => some (Value.slice a _ _)) hpg) rfl (by omega) (by omega) rfl ?_
            refine RL.loadF rfl rfl (fun w K hF => run_loadCell1 (j := ((x.k : Nat) : Int).toNat * 1) (v := I (g2[x.k]'hkg)) (hF (CellsF pg.1 pg.2 (ints g2)) (.head _)) rd_ts3 (by rw [Nat.mul_one]; exact ints_get hkg)) rfl ?_
            refine RL.bin rfl rfl rfl BinV.geq rfl ?_
            refine RL.pickT rfl rfl rfl rfl ?_
            refine RL.nil ?_
            refine NX.seq ?_
            refine TR.cond rfl (fun h5 => ?_) (fun h5 => ?_)
            · skip
              have hge : 0 ≤ g2[x.k] := of_decide_eq_true h5
              have hgf : g2[x.k].toNat < f1.length := by rcases r2 _ (List.getElem_mem hkg) with h | h <;> omega
              refine TR.openP (open_arr (oa := z1.1) (xs := ints f1) (.tail _ (.head _)) (ints_ne (by omega))) (fun pf hpf => ?_)
              refine TR.region ?_
              refine RL.move rfl rfl rfl ?_
              refine RL.move rfl rfl rfl ?_
              refine RL.move rfl rfl rfl ?_
              refine RL.indexAddr rfl rd_tl22 rd_tz3 (congrArg (fun a => some (Value.slice a _ _)) hpg) rfl (by omega) (by omega) rfl ?_
              refine RL.loadF rfl rfl (fun w K hF => run_loadCell1 (j := ((x.k : Nat) : Int).toNat * 1) (v := I (g2[x.k]'hkg)) (hF (CellsF pg.1 pg.2 (ints g2)) (.tail _ (.head _))) rd_ts3 (by rw [Nat.mul_one]; exact ints_get hkg)) rfl ?_
              refine RL.indexAddr rfl rd_tl22 rd_tz3 (congrArg (fun a => some (Value.slice a _ _)) hpf) rfl (by omega) (by omega) rfl ?_
              refine RL.loadF rfl rfl (fun w K hF => run_loadCell1 (j := g2[x.k].toNat * 1) (v := I (f1[g2[x.k].toNat]'hgf)) (hF (CellsF pf.1 pf.2 (ints f1)) (.head _)) rd_ts3 (by rw [Nat.mul_one]; exact ints_get hgf)) rfl ?_
              refine RL.assign rfl rfl rfl ?_
              refine RL.nil ?_
              exact NX.meet () ⟨rfl, rfl, rfl, rfl, rfl, rfl, rfl, rfl, congrArg (fun z => some (I z)) (by rw [← hfr0, hC, comp_at hkg, if_pos hge, getD_at hgf]), trivial⟩ (fun w hw => (hw.to 1 [0] 4 [3, 2] rfl))
            · skip
              have hge : ¬ 0 ≤ g2[x.k] := of_decide_eq_false h5
              refine TR.skip ?_
              exact NX.meet () ⟨rfl, rfl, rfl, rfl, rfl, rfl, rfl, rfl, congrArg (fun z => some (I z)) (by rw [← hfr0, hC, comp_at hkg, if_neg hge]), trivial⟩ (fun w hw => (hw.to 1 [0] 3 [2, 1] rfl))
          · skip
            have hku := of_decide_eq_false h4
            refine RL.skip rfl rfl rfl ?_
            refine RL.skip rfl rfl rfl ?_
            refine RL.skip rfl rfl rfl ?_
            refine RL.skip rfl rfl rfl ?_
            refine RL.skip rfl rfl rfl ?_
            refine RL.pickF rfl rfl rfl rfl ?_
            refine RL.nil ?_
            refine NX.seq ?_
            refine TR.condF rfl ?_
            refine TR.skip ?_
            exact NX.meet () ⟨rfl, rfl, rfl, rfl, rfl, rfl, rfl, rfl, congrArg (fun z => some (I z)) (by rw [← hfr0, hC, comp_end (by omega)]), trivial⟩ (fun w hw => (hw.to 1 [0] 2 [1, 0] rfl))
        refine TR.seq ?_
        refine TR.seq ?_
        refine TR.region ?_
        refine RL.move rfl rfl rfl ?_
        refine RL.move rfl rfl rfl ?_
        refine RL.lenStr rfl rd_tstr9 rfl rfl ?_
        refine RL.bin rfl rfl rfl BinV.lss rfl ?_
        refine RL.move rfl rfl rfl ?_
        refine RL.part (fun h6 => ?_) (fun h6 => ?_)
        · skip
          have hku0 := of_decide_eq_true h6
          have hku : x.k < uu.length := by omega
          have hfr : C[x.k]'(by omega) = fr := by rw [← hfr0, getD_at (by omega)]
          have hfl := hcr _ (List.getElem_mem (show x.k < C.length by omega))
          rw [hfr] at hfl
          refine RL.move rfl rfl rfl ?_
          refine RL.bin rfl rfl rfl BinV.lss rfl ?_
          refine RL.pickT rfl rfl rfl rfl ?_
          refine RL.nil ?_
          refine NX.seq ?_
          refine TR.cond rfl (fun h7 => ?_) (fun h7 => ?_)
          · skip
            have hneg2 : C[x.k]'(by omega) < 0 := by rw [hfr]; exact of_decide_eq_true h7
            have hcut : (uu.take (((x.k + 1 : Nat) : Int)).toNat).drop ((x.k : Nat) : Int).toNat = [uu[x.k]] := by rw [Int.toNat_natCast, Int.toNat_natCast, List.take_succ_eq_append_getElem hku, List.drop_append_of_le_length (by rw [List.length_take]; omega), List.drop_of_length_le (by rw [List.length_take]; omega)]; rfl
            refine TR.seq ?_
            refine TR.region ?_
            refine RL.move rfl rfl rfl ?_
            refine RL.move rfl rfl rfl ?_
            refine RL.move rfl rfl rfl ?_
            refine RL.move rfl rfl rfl ?_
            refine RL.bin rfl rfl rfl (BinV.add ((x.k + 1 : Nat) : Int) (by omega) (by omega) (by omega)) rfl ?_
            refine RL.sliceS rfl rd_tstr9 rfl rfl rfl (by omega) (by omega) (by omega) rfl ?_
            refine RL.bin rfl rfl rfl (BinV.addS (by rw [hcut]; have := hbd.2.1; rw [List.length_singleton]; omega)) rfl ?_
            refine RL.assign rfl rfl rfl ?_
            refine RL.nil ?_
            refine NX.seq ?_
            refine TR.exit ?_
            refine NX.exitThen ?_
            refine NX.exitHere ?_
            refine NX.seq ?_
            refine TR.region ?_
            refine RL.move rfl rfl rfl ?_
            refine RL.bin rfl rfl rfl (BinV.add _ rfl (by omega) (by omega)) rfl ?_
            refine RL.assign rfl rfl rfl ?_
            refine RL.nil ?_
            refine NX.roundP ⟨x.k + 1, (x.st.1, x.st.2.1, x.st.2.2 ++ [uu[x.k]]), x.oa, x.c⟩ ⟨by show x.k + 1 ≤ _; omega, .inl ⟨by show x.k + 1 ≤ _; omega, by rw [ref_fold hCl hku, ← hst, refStep_neg hneg2]⟩⟩ (by show _ - (x.k + 1) < _ - x.k; omega) ⟨rfl, rfl, rfl, rfl, rfl, rfl, ?_, rfl, trivial⟩ (fun w hw => (hw.to 1 [0] 2 [1, 0] rfl))
            rw [hcut]; rfl
          · skip
            have hnn := of_decide_eq_false h7
            refine TR.skip ?_
            refine NX.seq ?_
            refine TR.seq ?_
            refine TR.seq ?_
            refine TR.region ?_
            refine RL.move rfl rfl rfl ?_
            refine RL.move rfl rfl rfl ?_
            refine RL.lenStr rfl rd_tstr9 rfl rfl ?_
            refine RL.bin rfl rfl rfl (BinV.to (d := false) BinV.eql (decide_eq_false (by omega))) rfl ?_
            refine RL.nil ?_
            refine NX.seq ?_
            refine TR.condF rfl ?_
            refine TR.skip ?_
            refine NX.seq ?_
            refine TR.seq ?_
            refine TR.seq ?_
            refine TR.region ?_
            refine RL.move rfl rfl rfl ?_
            refine RL.move rfl rfl rfl ?_
            refine RL.bin rfl rfl rfl BinV.gtr rfl ?_
            refine RL.move rfl rfl rfl ?_
            refine RL.part (fun h8 => ?_) (fun h8 => ?_)
            · skip
              have hgt := of_decide_eq_true h8
              have hpu : x.st.2.1 < fr ∨ x.st.2.2 ≠ [] := .inl hgt
              refine RL.skip rfl rfl rfl ?_
              refine RL.skip rfl rfl rfl ?_
              refine RL.pickT rfl rfl rfl rfl ?_
              refine RL.nil ?_
              refine NX.seq ?_
              refine TR.condT rfl ?_
              refine TR.region ?_
              refine RL.move rfl rfl rfl ?_
              refine RL.move rfl rfl rfl ?_
              refine RL.move rfl rfl rfl ?_
              refine RL.move rfl rfl rfl ?_
              refine RL.build rfl rfl (rd_bv78_0_1_2 _ _ _) rfl ?_
              refine RL.buildSlice rfl rfl (rd_bs26_1_0 _ _ _) rfl (fun b9 => ?_)
              refine RL.ofGV rfl rfl (GV.append (j := 1) rd_tl26 rd_ni26 rd_te78 rfl rfl rfl (src_box (i := 0) rfl rfl rfl) (by omega) (by omega)) (fun y => ?_)
              refine RL.assign rfl rfl rfl ?_
              refine RL.nil ?_
              refine NX.seq ?_
              refine TR.seq ?_
              refine TR.region ?_
              refine RL.move rfl rfl rfl ?_
              refine RL.bin rfl rfl rfl (BinV.add _ rfl (by omega) (by omega)) rfl ?_
              refine RL.assign rfl rfl rfl ?_
              refine RL.nil ?_
              refine NX.seq ?_
              refine TR.region ?_
              refine RL.assign rfl rfl rfl ?_
              refine RL.nil ?_
              refine NX.off ?_
              refine NX.seq ?_
              refine TR.region ?_
              refine RL.move rfl rfl rfl ?_
              refine RL.bin rfl rfl rfl (BinV.add _ rfl (by omega) (by omega)) rfl ?_
              refine RL.assign rfl rfl rfl ?_
              refine RL.nil ?_
              refine NX.roundP ⟨x.k + 1, (if x.st.2.1 < fr ∨ x.st.2.2 ≠ [] then x.st.1 ++ [⟨x.st.2.1, fr, x.st.2.2⟩] else x.st.1, fr + 1, []), y.1, y.2⟩ ⟨by show x.k + 1 ≤ _; omega, .inl ⟨by show x.k + 1 ≤ _; omega, by rw [ref_fold hCl hku, ← hst, refStep_pos (by omega), hfr]⟩⟩ (by show _ - (x.k + 1) < _ - x.k; omega) ⟨rfl, rfl, rfl, rfl, ?_, rfl, rfl, rfl, trivial⟩ (fun w hw => ?_)
              · dsimp only
                rw [if_pos hpu, List.length_append]; rfl
              · have h9 := (hw.to 2 [1] 2 [1, 0] rfl)
                dsimp only
                rw [if_pos hpu, List.length_append, edC_append]
                exact h9
            · skip
              have hgt := of_decide_eq_false h8
              refine RL.move rfl rfl rfl ?_
              refine RL.bin rfl rfl rfl BinV.neqS rfl ?_
              refine RL.pickF rfl rfl rfl rfl ?_
              refine RL.nil ?_
              refine NX.seq ?_
              refine TR.cond rfl (fun h11 => ?_) (fun h11 => ?_)
              · skip
                have hpu : x.st.2.1 < fr ∨ x.st.2.2 ≠ [] := .inr (of_decide_eq_true h11)
                refine TR.region ?_
                refine RL.move rfl rfl rfl ?_
                refine RL.move rfl rfl rfl ?_
                refine RL.move rfl rfl rfl ?_
                refine RL.move rfl rfl rfl ?_
                refine RL.build rfl rfl (rd_bv78_0_1_2 _ _ _) rfl ?_
                refine RL.buildSlice rfl rfl (rd_bs26_1_0 _ _ _) rfl (fun b12 => ?_)
                refine RL.ofGV rfl rfl (GV.append (j := 1) rd_tl26 rd_ni26 rd_te78 rfl rfl rfl (src_box (i := 0) rfl rfl rfl) (by omega) (by omega)) (fun y => ?_)
                refine RL.assign rfl rfl rfl ?_
                refine RL.nil ?_
                refine NX.seq ?_
                refine TR.seq ?_
                refine TR.region ?_
                refine RL.move rfl rfl rfl ?_
                refine RL.bin rfl rfl rfl (BinV.add _ rfl (by omega) (by omega)) rfl ?_
                refine RL.assign rfl rfl rfl ?_
                refine RL.nil ?_
                refine NX.seq ?_
                refine TR.region ?_
                refine RL.assign rfl rfl rfl ?_
                refine RL.nil ?_
                refine NX.off ?_
                refine NX.seq ?_
                refine TR.region ?_
                refine RL.move rfl rfl rfl ?_
                refine RL.bin rfl rfl rfl (BinV.add _ rfl (by omega) (by omega)) rfl ?_
                refine RL.assign rfl rfl rfl ?_
                refine RL.nil ?_
                refine NX.roundP ⟨x.k + 1, (if x.st.2.1 < fr ∨ x.st.2.2 ≠ [] then x.st.1 ++ [⟨x.st.2.1, fr, x.st.2.2⟩] else x.st.1, fr + 1, []), y.1, y.2⟩ ⟨by show x.k + 1 ≤ _; omega, .inl ⟨by show x.k + 1 ≤ _; omega, by rw [ref_fold hCl hku, ← hst, refStep_pos (by omega), hfr]⟩⟩ (by show _ - (x.k + 1) < _ - x.k; omega) ⟨rfl, rfl, rfl, rfl, ?_, rfl, rfl, rfl, trivial⟩ (fun w hw => ?_)
                · dsimp only
                  rw [if_pos hpu, List.length_append]; rfl
                · have h9 := (hw.to 2 [1] 2 [1, 0] rfl)
                  dsimp only
                  rw [if_pos hpu, List.length_append, edC_append]
                  exact h9
              · skip
                have hpu : ¬ (x.st.2.1 < fr ∨ x.st.2.2 ≠ []) := fun e => by
                  rcases e with e | e
                  · exact hgt e
                  · exact of_decide_eq_false h11 e
                refine TR.skip ?_
                refine NX.seq ?_
                refine TR.seq ?_
                refine TR.region ?_
                refine RL.move rfl rfl rfl ?_
                refine RL.bin rfl rfl rfl (BinV.add _ rfl (by omega) (by omega)) rfl ?_
                refine RL.assign rfl rfl rfl ?_
                refine RL.nil ?_
                refine NX.seq ?_
                refine TR.region ?_
                refine RL.assign rfl rfl rfl ?_
                refine RL.nil ?_
                refine NX.off ?_
                refine NX.seq ?_
                refine TR.region ?_
                refine RL.move rfl rfl rfl ?_
                refine RL.bin rfl rfl rfl (BinV.add _ rfl (by omega) (by omega)) rfl ?_
                refine RL.assign rfl rfl rfl ?_
                refine RL.nil ?_
                refine NX.roundP ⟨x.k + 1, (if x.st.2.1 < fr ∨ x.st.2.2 ≠ [] then x.st.1 ++ [⟨x.st.2.1, fr, x.st.2.2⟩] else x.st.1, fr + 1, []), x.oa, x.c⟩ ⟨by show x.k + 1 ≤ _; omega, .inl ⟨by show x.k + 1 ≤ _; omega, by rw [ref_fold hCl hku, ← hst, refStep_pos (by omega), hfr]⟩⟩ (by show _ - (x.k + 1) < _ - x.k; omega) ⟨rfl, rfl, rfl, rfl, ?_, rfl, rfl, rfl, trivial⟩ (fun w hw => ?_)
                · dsimp only
                  rw [if_neg hpu]; rfl
                · have h9 := (hw.to 1 [0] 2 [1, 0] rfl)
                  dsimp only
                  rw [if_neg hpu]
                  exact h9
        · skip
          have hku0 := of_decide_eq_false h6
          have hke : x.k = uu.length := by omega
          refine RL.skip rfl rfl rfl ?_
          refine RL.skip rfl rfl rfl ?_
          refine RL.pickF rfl rfl rfl rfl ?_
          refine RL.nil ?_
          refine NX.seq ?_
          refine TR.condF rfl ?_
          refine TR.skip ?_
          refine NX.seq ?_
          refine TR.seq ?_
          refine TR.seq ?_
          refine TR.region ?_
          refine RL.move rfl rfl rfl ?_
          refine RL.move rfl rfl rfl ?_
          refine RL.lenStr rfl rd_tstr9 rfl rfl ?_
          refine RL.bin rfl rfl rfl (BinV.to (d := true) BinV.eql (decide_eq_true (by omega))) rfl ?_
          refine RL.nil ?_
          refine NX.seq ?_
          refine TR.condT rfl ?_
          refine TR.region ?_
          refine RL.move rfl rfl rfl ?_
          refine RL.lenStr rfl rd_tstr9 rfl rfl ?_
          refine RL.assign rfl rfl rfl ?_
          refine RL.nil ?_
          refine NX.seq ?_
          refine TR.seq ?_
          refine TR.seq ?_
          refine TR.region ?_
          refine RL.move rfl rfl rfl ?_
          refine RL.move rfl rfl rfl ?_
          refine RL.bin rfl rfl rfl BinV.gtr rfl ?_
          refine RL.move rfl rfl rfl ?_
          refine RL.part (fun h14 => ?_) (fun h14 => ?_)
          · skip
            have hgt := of_decide_eq_true h14
            have hpu : x.st.2.1 < (tx.length : Int) ∨ x.st.2.2 ≠ [] := .inl hgt
            refine RL.skip rfl rfl rfl ?_
            refine RL.skip rfl rfl rfl ?_
            refine RL.pickT rfl rfl rfl rfl ?_
            refine RL.nil ?_
            refine NX.seq ?_
            refine TR.condT rfl ?_
            refine TR.region ?_
            refine RL.move rfl rfl rfl ?_
            refine RL.move rfl rfl rfl ?_
            refine RL.move rfl rfl rfl ?_
            refine RL.move rfl rfl rfl ?_
            refine RL.build rfl rfl (rd_bv78_0_1_2 _ _ _) rfl ?_
            refine RL.buildSlice rfl rfl (rd_bs26_1_0 _ _ _) rfl (fun b15 => ?_)
            refine RL.ofGV rfl rfl (GV.append (j := 1) rd_tl26 rd_ni26 rd_te78 rfl rfl rfl (src_box (i := 0) rfl rfl rfl) (by omega) (by omega)) (fun y => ?_)
            refine RL.assign rfl rfl rfl ?_
            refine RL.nil ?_
            refine NX.seq ?_
            refine TR.seq ?_
            refine TR.region ?_
            refine RL.move rfl rfl rfl ?_
            refine RL.bin rfl rfl rfl (BinV.add _ rfl (by omega) (by omega)) rfl ?_
            refine RL.assign rfl rfl rfl ?_
            refine RL.nil ?_
            refine NX.seq ?_
            refine TR.region ?_
            refine RL.assign rfl rfl rfl ?_
            refine RL.nil ?_
            refine NX.off ?_
            refine NX.seq ?_
            refine TR.region ?_
            refine RL.move rfl rfl rfl ?_
            refine RL.bin rfl rfl rfl (BinV.add _ rfl (by omega) (by omega)) rfl ?_
            refine RL.assign rfl rfl rfl ?_
            refine RL.nil ?_
            refine NX.roundP ⟨x.k + 1, (if x.st.2.1 < (tx.length : Int) ∨ x.st.2.2 ≠ [] then x.st.1 ++ [⟨x.st.2.1, (tx.length : Int), x.st.2.2⟩] else x.st.1, (tx.length : Int) + 1, []), y.1, y.2⟩ ⟨by show x.k + 1 ≤ _; omega, .inr ⟨by show x.k + 1 = _; omega, by show _ = refFin _ _; rw [← ref_all hCl, ← hke, ← hst]; rfl⟩⟩ (by show _ - (x.k + 1) < _ - x.k; omega) ⟨rfl, rfl, rfl, rfl, ?_, rfl, rfl, rfl, trivial⟩ (fun w hw => ?_)
            · dsimp only
              rw [if_pos hpu, List.length_append]; rfl
            · have h9 := (hw.to 2 [1] 2 [1, 0] rfl)
              dsimp only
              rw [if_pos hpu, List.length_append, edC_append]
              exact h9
          · skip
            have hgt := of_decide_eq_false h14
            refine RL.move rfl rfl rfl ?_
            refine RL.bin rfl rfl rfl BinV.neqS rfl ?_
            refine RL.pickF rfl rfl rfl rfl ?_
            refine RL.nil ?_
            refine NX.seq ?_
            refine TR.cond rfl (fun h17 => ?_) (fun h17 => ?_)
            · skip
              have hpu : x.st.2.1 < (tx.length : Int) ∨ x.st.2.2 ≠ [] := .inr (of_decide_eq_true h17)
              refine TR.region ?_
              refine RL.move rfl rfl rfl ?_
              refine RL.move rfl rfl rfl ?_
              refine RL.move rfl rfl rfl ?_
              refine RL.move rfl rfl rfl ?_
              refine RL.build rfl rfl (rd_bv78_0_1_2 _ _ _) rfl ?_
              refine RL.buildSlice rfl rfl (rd_bs26_1_0 _ _ _) rfl (fun b18 => ?_)
              refine RL.ofGV rfl rfl (GV.append (j := 1) rd_tl26 rd_ni26 rd_te78 rfl rfl rfl (src_box (i := 0) rfl rfl rfl) (by omega) (by omega)) (fun y => ?_)
              refine RL.assign rfl rfl rfl ?_
              refine RL.nil ?_
              refine NX.seq ?_
              refine TR.seq ?_
              refine TR.region ?_
              refine RL.move rfl rfl rfl ?_
              refine RL.bin rfl rfl rfl (BinV.add _ rfl (by omega) (by omega)) rfl ?_
              refine RL.assign rfl rfl rfl ?_
              refine RL.nil ?_
              refine NX.seq ?_
              refine TR.region ?_
              refine RL.assign rfl rfl rfl ?_
              refine RL.nil ?_
              refine NX.off ?_
              refine NX.seq ?_
              refine TR.region ?_
              refine RL.move rfl rfl rfl ?_
              refine RL.bin rfl rfl rfl (BinV.add _ rfl (by omega) (by omega)) rfl ?_
              refine RL.assign rfl rfl rfl ?_
              refine RL.nil ?_
              refine NX.roundP ⟨x.k + 1, (if x.st.2.1 < (tx.length : Int) ∨ x.st.2.2 ≠ [] then x.st.1 ++ [⟨x.st.2.1, (tx.length : Int), x.st.2.2⟩] else x.st.1, (tx.length : Int) + 1, []), y.1, y.2⟩ ⟨by show x.k + 1 ≤ _; omega, .inr ⟨by show x.k + 1 = _; omega, by show _ = refFin _ _; rw [← ref_all hCl, ← hke, ← hst]; rfl⟩⟩ (by show _ - (x.k + 1) < _ - x.k; omega) ⟨rfl, rfl, rfl, rfl, ?_, rfl, rfl, rfl, trivial⟩ (fun w hw => ?_)
              · dsimp only
                rw [if_pos hpu, List.length_append]; rfl
              · have h9 := (hw.to 2 [1] 2 [1, 0] rfl)
                dsimp only
                rw [if_pos hpu, List.length_append, edC_append]
                exact h9
            · skip
              have hpu : ¬ (x.st.2.1 < (tx.length : Int) ∨ x.st.2.2 ≠ []) := fun e => by
                rcases e with e | e
                · exact hgt e
                · exact of_decide_eq_false h17 e
              refine TR.skip ?_
              refine NX.seq ?_
              refine TR.seq ?_
              refine TR.region ?_
              refine RL.move rfl rfl rfl ?_
              refine RL.bin rfl rfl rfl (BinV.add _ rfl (by omega) (by omega)) rfl ?_
              refine RL.assign rfl rfl rfl ?_
              refine RL.nil ?_
              refine NX.seq ?_
              refine TR.region ?_
              refine RL.assign rfl rfl rfl ?_
              refine RL.nil ?_
              refine NX.off ?_
              refine NX.seq ?_
              refine TR.region ?_
              refine RL.move rfl rfl rfl ?_
              refine RL.bin rfl rfl rfl (BinV.add _ rfl (by omega) (by omega)) rfl ?_
              refine RL.assign rfl rfl rfl ?_
              refine RL.nil ?_
              refine NX.roundP ⟨x.k + 1, (if x.st.2.1 < (tx.length : Int) ∨ x.st.2.2 ≠ [] then x.st.1 ++ [⟨x.st.2.1, (tx.length : Int), x.st.2.2⟩] else x.st.1, (tx.length : Int) + 1, []), x.oa, x.c⟩ ⟨by show x.k + 1 ≤ _; omega, .inr ⟨by show x.k + 1 = _; omega, by show _ = refFin _ _; rw [← ref_all hCl, ← hke, ← hst]; rfl⟩⟩ (by show _ - (x.k + 1) < _ - x.k; omega) ⟨rfl, rfl, rfl, rfl, ?_, rfl, rfl, rfl, trivial⟩ (fun w hw => ?_)
              · dsimp only
                rw [if_neg hpu]; rfl
              · have h9 := (hw.to 1 [0] 2 [1, 0] rfl)
                dsimp only
                rw [if_neg hpu]
                exact h9
      · skip
        have hkl : x.k = uu.length + 1 := by have := of_decide_eq_false h3; have := hx.1; omega
        have hRe : x.st.1 = R := by
          rcases hx.2 with h | h
          · omega
          · rw [hR]; exact h.2
        refine TR.exit ?_
        refine NX.exitThen ?_
        refine NX.exitThen ?_
        refine NX.exitHere ?_
        refine NX.seq ?_
        refine TR.seq ?_
        have hRl : R.length = x.st.1.length := by rw [hRe]
        refine TR.weak (fun w hw => by have h9 := (hw.front (i := 0) rfl).keepSl; rw [hRe] at h9; exact h9) ?_
        refine TR.region ?_
        refine RL.move rfl rfl rfl ?_
        refine RL.move rfl rfl rfl ?_
        refine RL.call rfl rfl Try.call84 rfl (rnormal_specN (es := R) hRl (.head _) hRin (by omega) (by have := hRb.2; omega) (by have := hRb.1; omega)) (fun zn => ?_)
        refine RL.assign rfl rfl rfl ?_
        refine RL.nil ?_
        refine NX.seq ?_
        refine TR.seq ?_
        refine TR.seq ?_
        refine TR.region ?_
        refine RL.move rfl rfl rfl ?_
        refine RL.lenSlice rfl rd_tl26 rfl rfl ?_
        refine RL.bin rfl rfl rfl BinV.gtr rfl ?_
        refine RL.nil ?_
        refine NX.seq ?_
        refine TR.cond rfl (fun h20 => ?_) (fun h20 => ?_)
        · skip
          have hbig : 64 < (normE tx R).length := by have := of_decide_eq_true h20; omega
          refine TR.seq ?_
          refine TR.region ?_
          refine RL.assign rfl rfl rfl ?_
          refine RL.assign rfl rfl rfl ?_
          refine RL.nil ?_
          refine NX.seq ?_
          refine TR.ret ?_
          refine NX.retThen ?_
          have hce : composeE tx a b = ([], 4) := (if_pos hz1).trans ((if_pos hz2p).trans (if_pos (by rw [hcl]; exact hbig)))
          refine NX.ret2 (⟨none, 0⟩ : RdX) rfl rfl rfl (by rw [hce]; rfl) (fun w hw => ?_)
          rw [hce]
          exact ((hw.to 0 [] 4 [] rfl) : St w M F).arr0
        · skip
          have hbig : ¬ 64 < (normE tx R).length := by have := of_decide_eq_false h20; omega
          refine TR.skip ?_
          refine NX.seq ?_
          refine TR.seq ?_
          refine TR.region ?_
          refine RL.move rfl rfl rfl ?_
          refine RL.assign rfl rfl rfl ?_
          refine RL.assign rfl rfl rfl ?_
          refine RL.nil ?_
          refine NX.seq ?_
          refine TR.ret ?_
          have hce : composeE tx a b = (normE tx R, 0) := (if_pos hz1).trans ((if_pos hz2p).trans ((if_neg (by rw [hcl]; exact hbig)).trans (by rw [hcl])))
          refine NX.ret2 zn rfl rfl rfl (by rw [hce]) (fun w hw => ?_)
          rw [hce]
          exact (hw.to 0 [] 4 [0] rfl)
end Go.Proofs.Ytkdeopioelocnaa

namespace Go.GL
set_option linter.unusedVariables false
structure RD where
  f : Int
  rows : List StR
  held : List HeR
def txC (l : List StR) : List Value := l.map fun r => S r.t
def ecC (l : List StR) : List Value := l.map fun r => .slice r.oa r.es.length r.c
theorem txC_len (l : List StR) : (txC l).length = l.length * 1 := by unfold txC; rw [List.length_map, Nat.mul_one]
theorem ecC_len (l : List StR) : (ecC l).length = l.length * 1 := by unfold ecC; rw [List.length_map, Nat.mul_one]
theorem txC_append (l : List StR) (x : StR) : txC (l ++ [x]) = txC l ++ [S x.t] := by unfold txC; rw [List.map_append]; rfl
theorem ecC_append (l : List StR) (x : StR) : ecC (l ++ [x]) = ecC l ++ [.slice x.oa x.es.length x.c] := by unfold ecC; rw [List.map_append]; rfl
theorem txC_ne {l : List StR} (h : 0 < l.length) : txC l ≠ [] := fun e => by have := congrArg List.length e; rw [txC_len] at this; simp at this; subst this; simp at h
theorem ecC_ne {l : List StR} (h : 0 < l.length) : ecC l ≠ [] := fun e => by have := congrArg List.length e; rw [ecC_len] at this; simp at this; subst this; simp at h
theorem txC_at {l : List StR} {i : Int} {k : Nat} (hi : i = (k : Int)) (h : k < l.length) : (txC l)[0 + i.toNat * 1]? = some (S l[k].t) := by
  subst hi; rw [Nat.zero_add, Int.toNat_natCast, Nat.mul_one]; unfold txC; rw [List.getElem?_map, List.getElem?_eq_getElem h]; rfl
theorem ecC_at {l : List StR} {i : Int} {k : Nat} (hi : i = (k : Int)) (h : k < l.length) : (ecC l)[0 + i.toNat * 1]? = some (.slice l[k].oa l[k].es.length l[k].c) := by
  subst hi; rw [Nat.zero_add, Int.toNat_natCast, Nat.mul_one]; unfold ecC; rw [List.getElem?_map, List.getElem?_eq_getElem h]; rfl
def RdB (T eS eE eC b : Nat) (d : RD) : HP := Ex (ι := (Option Addr × Nat) × (Option Addr × Nat) × (Option Addr × Nat)) fun i =>
  [Box b T [I d.f, .slice i.1.1 d.rows.length i.1.2, .slice i.2.1.1 d.rows.length i.2.1.2, .slice i.2.2.1 d.held.length i.2.2.2], OwnSl eS 1 i.1.1 d.rows.length i.1.2 (txC d.rows), OwnSl eE 1 i.2.1.1 d.rows.length i.2.1.2 (ecC d.rows), OwnSl eC 2 i.2.2.1 d.held.length i.2.2.2 (heC d.held)]
def RdF (d : RD) : Fact := ⟨fun w K => (∀ r, r ∈ d.rows → ArrAt w K r.oa (edC r.es)) ∧ ∀ h, h ∈ d.held → ArrAt w K h.oa (peC h.l), fun h e => ⟨fun r hr => (h.1 r hr).mono e, fun x hx => (h.2 x hx).mono e⟩⟩
theorem St.rdClose {w : World} {M : List HP} {F : List Fact} {T eS eE eC b n1 c1 n2 c2 n3 c3 : Nat} {o1 o2 o3 : Option Addr} {v : Int} {a1 a2 a3 : List Value} {d : RD} (e1 : v = d.f) (e2 : n1 = d.rows.length) (e3 : n2 = d.rows.length) (e4 : n3 = d.held.length) (e5 : a1 = txC d.rows) (e6 : a2 = ecC d.rows) (e7 : a3 = heC d.held)
    (h : St w (Box b T [I v, .slice o1 n1 c1, .slice o2 n2 c2, .slice o3 n3 c3] :: OwnSl eS 1 o1 n1 c1 a1 :: OwnSl eE 1 o2 n2 c2 a2 :: OwnSl eC 2 o3 n3 c3 a3 :: M) F) : St w (RdB T eS eE eC b d :: M) F := by
  subst e1; subst e2; subst e3; subst e4; subst e5; subst e6; subst e7
  exact St.exClose (M0 := fun i : (Option Addr × Nat) × (Option Addr × Nat) × (Option Addr × Nat) => [Box b T [I d.f, .slice i.1.1 d.rows.length i.1.2, .slice i.2.1.1 d.rows.length i.2.1.2, .slice i.2.2.1 d.held.length i.2.2.2], OwnSl eS 1 i.1.1 d.rows.length i.1.2 (txC d.rows), OwnSl eE 1 i.2.1.1 d.rows.length i.2.1.2 (ecC d.rows), OwnSl eC 2 i.2.2.1 d.held.length i.2.2.2 (heC d.held)]) ((o1, c1), (o2, c2), (o3, c3)) h
structure RelR (d : RD) (h : Hs) : Prop where
  ok : HsOk h
  f : d.f = h.first
  rows : d.rows.map (fun r => (r.t, r.es)) = h.hist
  held : d.held.map (fun r => (r.k, r.l)) = h.held
theorem RelR.len {d : RD} {h : Hs} (r : RelR d h) : d.rows.length = h.hist.length ∧ 0 < d.rows.length ∧ d.rows.length ≤ 1099511627777 ∧ h.v = d.f + d.rows.length - 1 ∧ 0 ≤ d.f ∧ d.f ≤ 1099511627776 ∧ d.held.length = h.held.length ∧ d.held.length ≤ 16 := by
  have h1 := congrArg List.length r.rows
  have h2 : 0 < h.hist.length := List.length_pos_iff.2 r.ok.ne
  have h3 := congrArg List.length r.held
  have h4 := r.ok.f0; have h5 := r.ok.v1; have h6 := r.f; have h7 := r.ok.few
  rw [List.length_map] at h1 h3
  have hv : h.v = h.first + h.hist.length - 1 := rfl
  omega
theorem RelR.row {d : RD} {h : Hs} (r : RelR d h) {i : Nat} (hi : i < d.rows.length) : h.hist[i]? = some (d.rows[i].t, d.rows[i].es) := by
  rw [← r.rows, List.getElem?_map, List.getElem?_eq_getElem hi]; rfl
theorem RelR.tx {d : RD} {h : Hs} (r : RelR d h) (hl : d.rows.length - 1 < d.rows.length) : d.rows[d.rows.length - 1].t = h.tx := by
  have h2 := r.row hl
  unfold Hs.tx
  rw [List.getLast?_eq_getElem?, ← r.len.1, h2]
theorem RelR.keys {d : RD} {h : Hs} (r : RelR d h) : (d.held.map HeR.k).Nodup := by
  have h1 := r.ok.keys
  rw [← r.held, List.map_map] at h1
  exact h1
theorem RelR.get {d : RD} {h : Hs} (r : RelR d h) (k : Int) : hGet h.held k = (heFind d.held k).map HeR.l := by rw [← r.held]; exact heFind_h _ _
theorem RelR.of {d : RD} {h h' : Hs} (r : RelR d h) (e : h = h') : RelR d h' := e ▸ r
theorem RelR.grow {d : RD} {h : Hs} (r : RelR d h) {x : StR} (hok : HsOk { h with hist := h.hist ++ [(x.t, x.es)] }) : RelR { d with rows := d.rows ++ [x] } { h with hist := h.hist ++ [(x.t, x.es)] } :=
  ⟨hok, r.f, by show (d.rows ++ [x]).map _ = _; rw [List.map_append, r.rows]; rfl, r.held⟩
theorem RelR.put {d : RD} {h : Hs} (r : RelR d h) {x : HeR} (hok : HsOk { h with held := h.held ++ [(x.k, x.l)] }) : RelR { d with held := d.held ++ [x] } { h with held := h.held ++ [(x.k, x.l)] } :=
  ⟨hok, r.f, r.rows, by show (d.held ++ [x]).map _ = _; rw [List.map_append, r.held]; rfl⟩
theorem RelR.new {tx : List UInt8} {ver : Int} (h1 : tx.length ≤ 4096) (h2 : 0 ≤ ver) (h3 : ver ≤ 1099511627776) : RelR ⟨ver, [⟨tx, [], none, 0⟩], []⟩ ⟨ver, [(tx, [])], []⟩ := by
  have hv : (⟨ver, [(tx, [])], []⟩ : Hs).v = ver := by show ver + 1 - 1 = ver; omega
  refine ⟨⟨h2, by simp, by rw [hv]; exact h3, fun p hp => ?_, List.nodup_nil, fun p hp => absurd hp (by simp), Nat.zero_le _⟩, rfl, rfl, rfl⟩
  rw [List.mem_singleton.1 hp]; exact ⟨h1, Nat.zero_le _, Nat.zero_le _⟩
theorem RdF.grow {w : World} {K : List Nat} {d : RD} {x : StR} (h : (RdF d).p w K) (hx : ArrAt w K x.oa (edC x.es)) : (RdF { d with rows := d.rows ++ [x] }).p w K := ⟨mem_snoc_all h.1 hx, h.2⟩
theorem RdF.put {w : World} {K : List Nat} {d : RD} {x : HeR} (h : (RdF d).p w K) (hx : ArrAt w K x.oa (peC x.l)) : (RdF { d with held := d.held ++ [x] }).p w K := ⟨h.1, mem_snoc_all h.2 hx⟩
def FdR (l : List HeR) (k z : Int) : Prop := (z = -1 ∧ ∀ r, r ∈ l → r.k ≠ k) ∨ ∃ i : Nat, z = i ∧ ∃ h : i < l.length, l[i].k = k
theorem find_key : ∀ {l : List HeR} {k : Int} {i : Nat} (hn : (l.map HeR.k).Nodup) (h : i < l.length), l[i].k = k → heFind l k = some l[i] ∧ heDel l k = l.take i ++ l.drop (i + 1)
  | [], k, i, _, h, _ => absurd h (Nat.not_lt_zero i)
  | x :: l, k, 0, hn, h, e => by
    rw [List.map_cons, List.nodup_cons] at hn
    have e : x.k = k := e
    unfold heFind heDel
    rw [List.find?_cons, List.filter_cons, if_neg (by simpa using e)]
    refine ⟨by simp [e], ?_⟩
    simp only [List.take_zero, List.nil_append, List.drop_succ_cons, List.drop_zero]
    refine List.filter_eq_self.2 fun y hy => ?_
    have : y.k ≠ k := fun e2 => hn.1 (List.mem_map.2 ⟨y, hy, by rw [e2, e]⟩)
    simpa using this
  | x :: l, k, i + 1, hn, h, e => by
    rw [List.map_cons, List.nodup_cons] at hn
    have hi : i < l.length := by simpa using h
    have e : l[i].k = k := e
    obtain ⟨h1, h2⟩ := find_key hn.2 hi e
    have hx : x.k ≠ k := fun e2 => hn.1 (List.mem_map.2 ⟨l[i], List.getElem_mem hi, by rw [e, e2]⟩)
    unfold heFind at h1 ⊢
    unfold heDel at h2 ⊢
    rw [List.find?_cons, List.filter_cons, if_pos (by simpa using hx), h2]
    refine ⟨by simp [hx, h1], rfl⟩
theorem FdR.no {d : RD} {h : Hs} (r : RelR d h) {k z : Int} (hz : FdR d.held k z) (hn : ¬ 0 ≤ z) : hGet h.held k = none := by
  rw [r.get]
  rcases hz with ⟨_, h1⟩ | ⟨i, h1, _⟩
  · have : heFind d.held k = none := List.find?_eq_none.2 fun x hx => by have := h1 x hx; simpa using this
    rw [this]; rfl
  · omega
theorem FdR.yes {d : RD} {h : Hs} (r : RelR d h) {k z : Int} (hz : FdR d.held k z) (hn : 0 ≤ z) : ∃ i : Nat, z = i ∧ ∃ hi : i < d.held.length, d.held[i].k = k ∧ hGet h.held k = some d.held[i].l ∧ heDel d.held k = d.held.take i ++ d.held.drop (i + 1) := by
  rcases hz with ⟨h1, _⟩ | ⟨i, h1, hi, h2⟩
  · omega
  · obtain ⟨h3, h4⟩ := find_key r.keys hi h2
    exact ⟨i, h1, hi, h2, by rw [r.get, h3]; rfl, h4⟩
theorem RelR.del {d : RD} {h : Hs} (r : RelR d h) (k : Int) : RelR { d with held := heDel d.held k } { h with held := hDel h.held k } :=
  ⟨r.ok.del k, r.f, r.rows, by show (heDel d.held k).map _ = _; rw [heDel_h, r.held]⟩
theorem RdF.del {w : World} {K : List Nat} {d : RD} (h : (RdF d).p w K) (k : Int) : (RdF { d with held := heDel d.held k }).p w K := ⟨h.1, fun x hx => h.2 x (List.mem_filter.1 hx).1⟩
structure RrX where
  n : Int
  d : RD
  h : Hs
theorem idx_known {h : Hs} {ver : Int} (h1 : h.first ≤ ver) (h2 : ver ≤ h.v) (h3 : h.v - 16 ≤ ver) : idxH h ver = some (ver - h.first).toNat := by
  unfold idxH; rw [if_pos ⟨h2, h3, h1⟩]
theorem idx_unknown {h : Hs} {ver : Int} (h1 : ¬ (h.first ≤ ver ∧ ver ≤ h.v ∧ h.v - 16 ≤ ver)) : idxH h ver = none := by
  unfold idxH; rw [if_neg (fun e => h1 ⟨e.2.2, e.1, e.2.1⟩)]
end Go.GL

namespace Go.Proofs.Ytkdeopioelocnaa
open Go.GL
set_option linter.unusedVariables false
theorem re_bs98_1_0 (x0 : List UInt8) : BuildSV Try.prog 98 9 1 [(0, S x0)] [S x0] := fun w => by kernel_rfl
theorem re_bs99_1_0 (x0 : Option Addr) (x0n x0c : Nat) : BuildSV Try.prog 99 26 1 [(0, .slice x0 x0n x0c)] [.slice x0 x0n x0c] := fun w => by kernel_rfl
theorem re_bv101_0_1_2 (x0 : Int) (x1 : Option Addr) (x1n x1c : Nat) (x2 : Option Addr) (x2n x2c : Nat) : BuildV Try.prog 101 [(0, .int .i64 x0), (1, .slice x1 x1n x1c), (2, .slice x2 x2n x2c)] (.agg #[.int .i64 x0, .slice x1 x1n x1c, .slice x2 x2n x2c, .slice none 0 0]) := fun w => by kernel_rfl
theorem re_ni98 : noInt Try.prog 98 = true := by kernel_rfl
theorem re_ni99 : noInt Try.prog 99 = true := by kernel_rfl
theorem re_te26 : tyElem Try.prog 26 1 24 = true := by kernel_rfl
theorem re_te9 : tyElem Try.prog 9 1 16 = true := by kernel_rfl
theorem re_tf101_0 : fieldOff Try.prog 101 0 0 = true := by kernel_rfl
theorem re_tf101_1 : fieldOff Try.prog 101 1 1 = true := by kernel_rfl
theorem re_tf101_2 : fieldOff Try.prog 101 2 2 = true := by kernel_rfl
theorem re_tf101_3 : fieldOff Try.prog 101 3 3 = true := by kernel_rfl
theorem re_tf39_0 : fieldOff Try.prog 39 0 0 = true := by kernel_rfl
theorem re_tl23 : tySlice Try.prog 23 39 = true := by kernel_rfl
theorem re_tl98 : tySlice Try.prog 98 9 = true := by kernel_rfl
theorem re_tl99 : tySlice Try.prog 99 26 = true := by kernel_rfl
theorem re_ts23 : tyScalar Try.prog 23 = true := by kernel_rfl
theorem re_ts3 : tyScalar Try.prog 3 = true := by kernel_rfl
theorem re_ts9 : tyScalar Try.prog 9 = true := by kernel_rfl
theorem re_ts98 : tyScalar Try.prog 98 = true := by kernel_rfl
theorem re_ts99 : tyScalar Try.prog 99 = true := by kernel_rfl
theorem re_tstr9 : tyStr Try.prog 9 = true := by kernel_rfl
theorem re_tz39 : tySize Try.prog 39 2 = true := by kernel_rfl
theorem re_tz9 : tySize Try.prog 9 1 = true := by kernel_rfl
theorem rversion_spec {b : Nat} {d : RD} {h : Hs} {M : List HP} {F : List Fact} (hr : RelR d h) : Ctr Try.prog 58 [.pointer (some ⟨b, 0, none⟩)] (RdB 101 9 26 39 b (d) :: M) F Unit (fun _ => I h.v) (fun _ => RdB 101 9 26 39 b (d) :: M) (fun _ => F) := by
  refine Ctr.body Try.func58 rfl rfl ?_
  refine TR.seq ?_
  refine TR.region ?_
  refine RL.assign rfl rfl rfl ?_
  refine RL.nil ?_
  refine NX.seq ?_
  refine TR.seq ?_
  have hrl := hr.len
  refine TR.open (fun w hw => (St.exOpen (show St w (Ex _ :: _) _ from hw))) (fun ic => ?_)
  refine TR.sub (E' := [(0, _), (2, _)]) ⟨rfl, rfl, trivial⟩ ?_
  refine TR.draw mixed ?_
  apply AR.more [(0, _), (1, _), (2, _), (3, _), (4, _), (5, _), (6, _), (7, _), (8, _), (9, _), (10, _), (11, _)]
  refine AR.last [0, 1, 2, 3, 4, 5, 6, 7, 8, 9, 10, 11] [0, 1, 2, 3, 4, 5, 6, 7, 8, 9, 10, 11] ⟨QOne.yes rfl rfl rfl (PV.move rfl), QOne.yes rfl rfl rfl (PV.nilCheck rfl), QOne.yes rfl rfl rfl (PV.fieldAddr re_tf101_0 rfl), QOne.yes rfl rfl rfl (PV.load1 0 re_ts3 rfl rfl rfl), QOne.yes rfl rfl rfl (PV.move rfl), QOne.yes rfl rfl rfl (PV.nilCheck rfl), QOne.yes rfl rfl rfl (PV.fieldAddr re_tf101_1 rfl), QOne.yes rfl rfl rfl (PV.load1 0 re_ts98 rfl rfl rfl), QOne.yes rfl rfl rfl (PV.lenSlice re_tl98 rfl), QOne.yes rfl rfl rfl (PV.bin rfl rfl (BinV.add (d.f + d.rows.length) rfl (by omega) (by omega))), QOne.yes rfl rfl rfl (PV.bin rfl rfl (BinV.sub (d.f + d.rows.length - 1) rfl (by omega) (by omega))), QOne.yes rfl rfl rfl (PV.assign rfl), trivial⟩ rfl rfl rfl ?_
  refine NX.sub (E' := [(2, _)]) ⟨rfl, trivial⟩ ?_
  refine NX.seq ?_
  refine TR.ret ?_
  exact NX.ret1 () rfl rfl (by rw [hrl.2.2.2.1]) (fun w hw => St.rdClose (d := d) rfl rfl rfl rfl rfl rfl rfl (hw.to 4 [0, 1, 2, 3] 0 [] rfl))
theorem rtext_spec {b : Nat} {d : RD} {h : Hs} {M : List HP} {F : List Fact} (hr : RelR d h) : Ctr Try.prog 25 [.pointer (some ⟨b, 0, none⟩)] (RdB 101 9 26 39 b (d) :: M) F Unit (fun _ => S h.tx) (fun _ => RdB 101 9 26 39 b (d) :: M) (fun _ => F) := by
  refine Ctr.body Try.func25 rfl rfl ?_
  refine TR.seq ?_
  refine TR.region ?_
  refine RL.assign rfl rfl rfl ?_
  refine RL.nil ?_
  refine NX.seq ?_
  refine TR.seq ?_
  have hrl := hr.len
  have hrk : d.rows.length - 1 < d.rows.length := by omega
  refine TR.open (fun w hw => (St.exOpen (show St w (Ex _ :: _) _ from hw))) (fun ic => ?_)
  refine TR.openP (fun w hw => own_at (i := 1) rfl (txC_ne hrl.2.1) hw) (fun gt hgt => ?_)
  refine TR.sub (E' := [(0, _), (2, _)]) ⟨rfl, rfl, trivial⟩ ?_
  refine TR.draw mixed ?_
  apply AR.more [(0, _), (1, _), (2, _), (3, _), (4, _), (5, _), (6, _), (7, _), (8, _), (9, _), (10, _), (11, _), (12, _)]
  refine AR.last [0, 1, 2, 3, 4, 5, 6, 7, 8, 9, 10, 11, 12] [0, 1, 2, 3, 4, 5, 6, 7, 8, 9, 10, 11, 12] ⟨QOne.yes rfl rfl rfl (PV.move rfl), QOne.yes rfl rfl rfl (PV.nilCheck rfl), QOne.yes rfl rfl rfl (PV.fieldAddr re_tf101_1 rfl), QOne.yes rfl rfl rfl (PV.load1 0 re_ts98 rfl rfl rfl), QOne.yes rfl rfl rfl (PV.move rfl), QOne.yes rfl rfl rfl (PV.nilCheck rfl), QOne.yes rfl rfl rfl (PV.fieldAddr re_tf101_1 rfl), QOne.yes rfl rfl rfl (PV.load1 0 re_ts98 rfl rfl rfl), QOne.yes rfl rfl rfl (PV.lenSlice re_tl98 rfl), QOne.yes rfl rfl rfl (PV.bin rfl rfl (BinV.sub ((d.rows.length - 1 : Nat) : Int) (by omega) (by omega) (by omega))), QOne.yes rfl rfl rfl (PV.indexAddr re_tl98 re_tz9 (congrArg (fun a => some (Value.slice a _ _)) hgt) rfl (by omega) (by omega)), QOne.yes rfl rfl rfl (PV.loadS rfl (own_one (i := 1) rfl hgt re_ts9 (show (txC d.rows)[0 + ((d.rows.length - 1 : Nat) : Int).toNat * 1]? = some (S h.tx) from by rw [txC_at rfl hrk, hr.tx hrk]))), QOne.yes rfl rfl rfl (PV.assign rfl), trivial⟩ rfl rfl rfl ?_
  refine NX.sub (E' := [(2, _)]) ⟨rfl, trivial⟩ ?_
  refine NX.seq ?_
  refine TR.ret ?_
  exact NX.ret1 () rfl rfl rfl (fun w hw => St.rdClose (d := d) rfl rfl rfl rfl rfl rfl rfl (hw.to 4 [0, 1, 2, 3] 0 [] rfl))
theorem rfind_spec {k : Int} {b : Nat} {d : RD} {h : Hs} {M : List HP} {F : List Fact} (hr : RelR d h) : Ctr Try.prog 59 [.pointer (some ⟨b, 0, none⟩), I k] (RdB 101 9 26 39 b (d) :: M) F {z : Int // FdR d.held k z} (fun z => I z.1) (fun _ => RdB 101 9 26 39 b (d) :: M) (fun _ => F) := by
  refine Ctr.body Try.func59 rfl rfl ?_
  refine TR.seq ?_
  refine TR.region ?_
  refine RL.assign rfl rfl rfl ?_
  refine RL.nil ?_
  refine NX.seq ?_
  refine TR.seq ?_
  refine TR.seq ?_
  have hrl := hr.len
  refine TR.open (fun w hw => (St.exOpen (show St w (Ex _ :: _) _ from hw))) (fun ic => ?_)
  refine TR.region ?_
  refine RL.assign rfl rfl rfl ?_
  refine RL.nil ?_
  refine NX.seq ?_
  refine TR.block ?_
  refine TR.loopP (ι := Nat) (fun i => i ≤ d.held.length ∧ ∀ r, r ∈ d.held.take i → r.k ≠ k) (fun i => [(0, .pointer (some ⟨b, 0, none⟩)), (1, I k), (5, I (i : Nat))]) (fun i => Box b 101 [I d.f, .slice ic.1.1 d.rows.length ic.1.2, .slice ic.2.1.1 d.rows.length ic.2.1.2, .slice ic.2.2.1 d.held.length ic.2.2.2] :: OwnSl 9 1 ic.1.1 d.rows.length ic.1.2 (txC d.rows) :: OwnSl 26 1 ic.2.1.1 d.rows.length ic.2.1.2 (ecC d.rows) :: OwnSl 39 2 ic.2.2.1 d.held.length ic.2.2.2 (heC d.held) :: M) (fun i => F) (fun i => d.held.length - i) 0 ⟨Nat.zero_le _, fun r hr => absurd hr (by simp)⟩ ⟨rfl, rfl, rfl, trivial⟩ (fun w hw => (hw.to 4 [0, 1, 2, 3] 0 [] rfl)) (fun i hi => ?_)
  refine TR.seq ?_
  refine TR.seq ?_
  refine TR.region ?_
  refine RL.move rfl rfl rfl ?_
  refine RL.move rfl rfl rfl ?_
  refine RL.nilCheck rfl rfl rfl ?_
  refine RL.fieldAddr rfl re_tf101_3 rfl rfl ?_
  refine RL.load1 0 rfl re_ts23 rfl rfl rfl rfl ?_
  refine RL.lenSlice rfl re_tl23 rfl rfl ?_
  refine RL.bin rfl rfl rfl BinV.lss rfl ?_
  refine RL.nil ?_
  refine NX.seq ?_
  refine TR.cond rfl (fun h1 => ?_) (fun h1 => ?_)
  · skip
    have hk1 : i < d.held.length := by have := of_decide_eq_true h1; omega
    refine TR.openP (fun w hw => own_at (i := 3) rfl (heC_ne (by omega)) hw) (fun gh hgh => ?_)
    refine TR.skip ?_
    refine NX.seq ?_
    refine TR.seq ?_
    refine TR.block ?_
    refine TR.seq ?_
    refine TR.region ?_
    refine RL.move rfl rfl rfl ?_
    refine RL.nilCheck rfl rfl rfl ?_
    refine RL.fieldAddr rfl re_tf101_3 rfl rfl ?_
    refine RL.load1 0 rfl re_ts23 rfl rfl rfl rfl ?_
    refine RL.move rfl rfl rfl ?_
    refine RL.indexAddr rfl re_tl23 re_tz39 (congrArg (fun a => some (Value.slice a _ _)) hgh) rfl (by omega) (by omega) rfl ?_
    refine RL.fieldAddr rfl re_tf39_0 rfl rfl ?_
    refine RL.loadS rfl rfl (own_one (i := 3) rfl hgh re_ts3 (show (heC d.held)[0 + ((i : Nat) : Int).toNat * 2 + 0]? = some (I d.held[i].k) from heC_at1 hk1 rfl)) rfl ?_
    refine RL.move rfl rfl rfl ?_
    refine RL.bin rfl rfl rfl BinV.eql rfl ?_
    refine RL.nil ?_
    refine NX.seq ?_
    refine TR.cond rfl (fun h2 => ?_) (fun h2 => ?_)
    · skip
      have he : d.held[i].k = k := of_decide_eq_true h2
      refine TR.seq ?_
      refine TR.region ?_
      refine RL.move rfl rfl rfl ?_
      refine RL.assign rfl rfl rfl ?_
      refine RL.nil ?_
      refine NX.seq ?_
      refine TR.ret ?_
      refine NX.retBlock ?_
      refine NX.retThen ?_
      refine NX.retThen ?_
      refine NX.retBlock ?_
      refine NX.retThen ?_
      exact NX.ret1 (⟨(i : Int), .inr ⟨i, rfl, hk1, he⟩⟩ : {z : Int // FdR d.held k z}) rfl rfl rfl (fun w hw => St.rdClose (d := d) rfl rfl rfl rfl rfl rfl rfl (hw.to 4 [0, 1, 2, 3] 0 [] rfl))
    · skip
      have he : ¬ d.held[i].k = k := of_decide_eq_false h2
      refine TR.skip ?_
      refine NX.off ?_
      refine NX.seq ?_
      refine TR.region ?_
      refine RL.move rfl rfl rfl ?_
      refine RL.bin rfl rfl rfl (BinV.add _ rfl (by omega) (by omega)) rfl ?_
      refine RL.assign rfl rfl rfl ?_
      refine RL.nil ?_
      refine NX.roundP (i + 1) ⟨hk1, by rw [List.take_succ_eq_append_getElem hk1]; exact mem_snoc_all hi.2 he⟩ (by omega) ⟨rfl, rfl, rfl, trivial⟩ (fun w hw => (hw.to 4 [0, 1, 2, 3] 0 [] rfl))
  · skip
    have hk2 : i = d.held.length := by have := of_decide_eq_false h1; have := hi.1; omega
    refine TR.exit ?_
    refine NX.exitThen ?_
    refine NX.exitThen ?_
    refine NX.exitHere ?_
    refine NX.seq ?_
    refine TR.seq ?_
    refine TR.region ?_
    refine RL.assign rfl rfl rfl ?_
    refine RL.nil ?_
    refine NX.seq ?_
    refine TR.ret ?_
    exact NX.ret1 (⟨-1, .inl ⟨rfl, by have h9 := hi.2; rw [hk2, List.take_length] at h9; exact h9⟩⟩ : {z : Int // FdR d.held k z}) rfl rfl rfl (fun w hw => St.rdClose (d := d) rfl rfl rfl rfl rfl rfl rfl (hw.to 4 [0, 1, 2, 3] 0 [] rfl))
theorem rknown_spec {ver : Int} {b : Nat} {d : RD} {h : Hs} {M : List HP} {F : List Fact} (hr : RelR d h) : Ctr Try.prog 62 [.pointer (some ⟨b, 0, none⟩), I ver] (RdB 101 9 26 39 b (d) :: M) F Unit (fun _ => .bool (decide (h.first ≤ ver ∧ ver ≤ h.v ∧ h.v - 16 ≤ ver))) (fun _ => RdB 101 9 26 39 b (d) :: M) (fun _ => F) := by
  refine Ctr.body Try.func62 rfl rfl ?_
  refine TR.seq ?_
  refine TR.region ?_
  refine RL.assign rfl rfl rfl ?_
  refine RL.nil ?_
  refine NX.seq ?_
  refine TR.seq ?_
  have hrl := hr.len
  have hv1 := hr.ok.v1
  have hff := hr.f
  refine TR.open (fun w hw => (St.exOpen (show St w (Ex _ :: _) _ from hw))) (fun ic => ?_)
  refine TR.region ?_
  refine RL.move rfl rfl rfl ?_
  refine RL.move rfl rfl rfl ?_
  refine RL.nilCheck rfl rfl rfl ?_
  refine RL.fieldAddr rfl re_tf101_0 rfl rfl ?_
  refine RL.load1 0 rfl re_ts3 rfl rfl rfl rfl ?_
  refine RL.bin rfl rfl rfl BinV.geq rfl ?_
  refine RL.weak (fun w hw => St.rdClose (d := d) rfl rfl rfl rfl rfl rfl rfl (show St w (_ :: _ :: _ :: _ :: _) _ from hw.toM 4 [0, 1, 2, 3] rfl)) ?_
  refine RL.move rfl rfl rfl ?_
  refine RL.part (fun h1 => ?_) (fun h1 => ?_)
  · skip
    have hy1 : h.first ≤ ver := by have := of_decide_eq_true h1; omega
    refine RL.move rfl rfl rfl ?_
    refine RL.move rfl rfl rfl ?_
    refine RL.call rfl rfl Try.call58 rfl (rversion_spec hr) (fun _ => ?_)
    refine RL.bin rfl rfl rfl BinV.leq rfl ?_
    refine RL.pickT rfl rfl rfl rfl ?_
    refine RL.move rfl rfl rfl ?_
    refine RL.part (fun h2 => ?_) (fun h2 => ?_)
    · skip
      have hy2 : ver ≤ h.v := of_decide_eq_true h2
      refine RL.move rfl rfl rfl ?_
      refine RL.move rfl rfl rfl ?_
      refine RL.call rfl rfl Try.call58 rfl (rversion_spec hr) (fun _ => ?_)
      refine RL.bin rfl rfl rfl (BinV.sub (h.v - 16) rfl (by omega) (by omega)) rfl ?_
      refine RL.bin rfl rfl rfl BinV.geq rfl ?_
      refine RL.pickT rfl rfl rfl rfl ?_
      refine RL.assign rfl rfl rfl ?_
      refine RL.nil ?_
      refine NX.seq ?_
      refine TR.ret ?_
      exact NX.ret1 () rfl rfl (congrArg Value.bool (decide_eq_decide.2 ⟨fun e => ⟨hy1, hy2, by omega⟩, fun e => by omega⟩)) (fun w hw => (hw.to 1 [0] 0 [] rfl))
    · skip
      have hno2 : ¬ ver ≤ h.v := of_decide_eq_false h2
      refine RL.skip rfl rfl rfl ?_
      refine RL.skip rfl rfl rfl ?_
      refine RL.skip rfl rfl rfl ?_
      refine RL.skip rfl rfl rfl ?_
      refine RL.skip rfl rfl rfl ?_
      refine RL.pickF rfl rfl rfl rfl ?_
      refine RL.assign rfl rfl rfl ?_
      refine RL.nil ?_
      refine NX.seq ?_
      refine TR.ret ?_
      exact NX.ret1 () rfl rfl (congrArg Value.bool (decide_eq_false (fun e => hno2 e.2.1)).symm) (fun w hw => (hw.to 1 [0] 0 [] rfl))
  · skip
    have hno : ¬ h.first ≤ ver := by have := of_decide_eq_false h1; omega
    refine RL.skip rfl rfl rfl ?_
    refine RL.skip rfl rfl rfl ?_
    refine RL.skip rfl rfl rfl ?_
    refine RL.skip rfl rfl rfl ?_
    refine RL.pickF rfl rfl rfl rfl ?_
    refine RL.move rfl rfl rfl ?_
    refine RL.skip rfl rfl rfl ?_
    refine RL.skip rfl rfl rfl ?_
    refine RL.skip rfl rfl rfl ?_
    refine RL.skip rfl rfl rfl ?_
    refine RL.skip rfl rfl rfl ?_
    refine RL.pickF rfl rfl rfl rfl ?_
    refine RL.assign rfl rfl rfl ?_
    refine RL.nil ?_
    refine NX.seq ?_
    refine TR.ret ?_
    exact NX.ret1 () rfl rfl (congrArg Value.bool (decide_eq_false (fun e => hno e.1)).symm) (fun w hw => (hw.to 1 [0] 0 [] rfl))
set_option maxHeartbeats 1000000 in
theorem rbec_spec {l : List Ed} {oa : Option Addr} {ca : Nat} {b : Nat} {d : RD} {h : Hs} {M : List HP} {F : List Fact} (hr : RelR d h) (hD : RdF d ∈ F) (hl : ArrF oa (edC l) ∈ F) (hll : l.length ≤ 1099511627776) (hb : soundE h.tx.length l = 0 → (applyGo h.tx 0 l).length ≤ 140737488355328) (hv : h.v < 1099511627776) : Ctr Try.prog 61 [.pointer (some ⟨b, 0, none⟩), .slice oa l.length ca] (RdB 101 9 26 39 b (d) :: M) F {q : RD // RelR q (becH h l).2} (fun _ => I (becH h l).1) (fun q => RdB 101 9 26 39 b (q.1) :: M) (fun q => RdF q.1 :: F) := by
  refine Ctr.body Try.func61 rfl rfl ?_
  refine TR.seq ?_
  refine TR.region ?_
  refine RL.assign rfl rfl rfl ?_
  refine RL.nil ?_
  refine NX.seq ?_
  refine TR.seq ?_
  refine TR.region ?_
  refine RL.move rfl rfl rfl ?_
  refine RL.call rfl rfl Try.call25 rfl (rtext_spec hr) (fun _ => ?_)
  refine RL.move rfl rfl rfl ?_
  refine RL.call rfl rfl Try.call44 rfl (rapply_spec (s := h.tx) (es := l) hl (by omega) (by have := hr.ok.tx; omega) hb) (fun _ => ?_)
  refine RL.move rfl rfl rfl ?_
  refine RL.extract rfl rfl rfl rfl ?_
  refine RL.extract rfl rfl rfl rfl ?_
  refine RL.assign rfl rfl rfl ?_
  refine RL.assign rfl rfl rfl ?_
  refine RL.nil ?_
  refine NX.seq ?_
  refine TR.seq ?_
  refine TR.seq ?_
  refine TR.region ?_
  refine RL.move rfl rfl rfl ?_
  refine RL.bin rfl rfl rfl BinV.neq rfl ?_
  refine RL.nil ?_
  refine NX.seq ?_
  refine TR.cond rfl (fun h1 => ?_) (fun h1 => ?_)
  · skip
    have hz : soundE h.tx.length l ≠ 0 := by have h9 := of_decide_eq_true h1; rw [applyE_err] at h9; exact h9
    refine TR.seq ?_
    refine TR.region ?_
    refine RL.move rfl rfl rfl ?_
    refine RL.assign rfl rfl rfl ?_
    refine RL.nil ?_
    refine NX.seq ?_
    refine TR.ret ?_
    refine NX.retThen ?_
    have hbe : becH h l = (soundE h.tx.length l, h) := if_pos hz
    exact NX.ret1 (⟨d, by rw [hbe]; exact hr⟩ : {q : RD // RelR q (becH h l).2}) rfl rfl (by rw [hbe]; show I (applyE h.tx l).2 = I (soundE h.tx.length l); rw [applyE_err]) (fun w hw => (show St w (RdB 101 9 26 39 b (d) :: M) F from (hw.to 1 [0] 0 [] rfl)).derive (ψ := RdF d) (fun K hf => hf _ hD))
  · skip
    have hz0 : soundE h.tx.length l = 0 := by have h9 := Decidable.not_not.1 (of_decide_eq_false h1); rw [applyE_err] at h9; exact h9
    have hz : ¬ soundE h.tx.length l ≠ 0 := fun e => e hz0
    rw [applyE_ok hz0]
    have hb1 := hb hz0
    refine TR.skip ?_
    refine NX.seq ?_
    refine TR.seq ?_
    refine TR.seq ?_
    refine TR.region ?_
    refine RL.move rfl rfl rfl ?_
    refine RL.lenStr rfl re_tstr9 rfl rfl ?_
    refine RL.bin rfl rfl rfl BinV.gtr rfl ?_
    refine RL.nil ?_
    refine NX.seq ?_
    refine TR.cond rfl (fun h2 => ?_) (fun h2 => ?_)
    · skip
      have hbig : 4096 < (applyGo h.tx 0 l).length := by have := of_decide_eq_true h2; omega
      refine TR.seq ?_
      refine TR.region ?_
      refine RL.assign rfl rfl rfl ?_
      refine RL.nil ?_
      refine NX.seq ?_
      refine TR.ret ?_
      refine NX.retThen ?_
      have hbe : becH h l = (4, h) := (if_neg hz).trans (if_pos hbig)
      exact NX.ret1 (⟨d, by rw [hbe]; exact hr⟩ : {q : RD // RelR q (becH h l).2}) rfl rfl (by rw [hbe]) (fun w hw => (show St w (RdB 101 9 26 39 b (d) :: M) F from (hw.to 1 [0] 0 [] rfl)).derive (ψ := RdF d) (fun K hf => hf _ hD))
    · skip
      have hbig : ¬ 4096 < (applyGo h.tx 0 l).length := by have := of_decide_eq_false h2; omega
      refine TR.skip ?_
      refine NX.seq ?_
      refine TR.seq ?_
      have hrl := hr.len
      refine TR.open (fun w hw => (St.exOpen (show St w (Ex _ :: _) _ from hw))) (fun ic => ?_)
      refine TR.region ?_
      refine RL.move rfl rfl rfl ?_
      refine RL.move rfl rfl rfl ?_
      refine RL.nilCheck rfl rfl rfl ?_
      refine RL.fieldAddr rfl re_tf101_1 rfl rfl ?_
      refine RL.load1 0 rfl re_ts98 rfl rfl rfl rfl ?_
      refine RL.move rfl rfl rfl ?_
      refine RL.buildSlice rfl rfl (re_bs98_1_0 _) rfl (fun b3 => ?_)
      refine RL.ofGV rfl rfl (GV.append (j := 2) re_tl98 re_ni98 re_te9 rfl rfl rfl (src_box (i := 0) rfl rfl rfl) (by omega) (by omega)) (fun y1 => ?_)
      refine RL.nilCheck rfl rfl rfl ?_
      refine RL.fieldAddr rfl re_tf101_1 rfl rfl ?_
      refine RL.store1 1 rfl re_ts98 rfl rfl rfl rfl rfl ?_
      refine RL.nil ?_
      refine NX.seq ?_
      refine TR.seq ?_
      refine TR.region ?_
      refine RL.move rfl rfl rfl ?_
      refine RL.move rfl rfl rfl ?_
      refine RL.nilCheck rfl rfl rfl ?_
      refine RL.fieldAddr rfl re_tf101_2 rfl rfl ?_
      refine RL.load1 1 rfl re_ts99 rfl rfl rfl rfl ?_
      refine RL.move rfl rfl rfl ?_
      refine RL.buildSlice rfl rfl (re_bs99_1_0 _ _ _) rfl (fun b5 => ?_)
      refine RL.ofGV rfl rfl (GV.append (j := 4) re_tl99 re_ni99 re_te26 rfl rfl rfl (src_box (i := 0) rfl rfl rfl) (by omega) (by omega)) (fun y2 => ?_)
      refine RL.nilCheck rfl rfl rfl ?_
      refine RL.fieldAddr rfl re_tf101_2 rfl rfl ?_
      refine RL.store1 2 rfl re_ts99 rfl rfl rfl rfl rfl ?_
      refine RL.nil ?_
      refine NX.seq ?_
      refine TR.seq ?_
      refine TR.region ?_
      refine RL.assign rfl rfl rfl ?_
      refine RL.nil ?_
      refine NX.seq ?_
      refine TR.ret ?_
      have hbe : becH h l = (0, { h with hist := h.hist ++ [((applyGo h.tx 0 l), l)] }) := (if_neg hz).trans (if_neg hbig)
      have hbo := (becH_ok (l := l) hr.ok hv).1
      rw [hbe] at hbo
      refine NX.ret1 (⟨({ d with rows := d.rows ++ [(⟨(applyGo h.tx 0 l), l, oa, ca⟩ : StR)] } : RD), by rw [hbe]; exact hr.grow (x := (⟨(applyGo h.tx 0 l), l, oa, ca⟩ : StR)) hbo⟩ : {q : RD // RelR q (becH h l).2}) rfl rfl (by rw [hbe]) (fun w hw => ?_)
      have h9 : St w (RdB 101 9 26 39 b (({ d with rows := d.rows ++ [(⟨(applyGo h.tx 0 l), l, oa, ca⟩ : StR)] } : RD)) :: M) F := St.rdClose (d := ({ d with rows := d.rows ++ [(⟨(applyGo h.tx 0 l), l, oa, ca⟩ : StR)] } : RD)) rfl (by rw [List.length_append]; rfl) (by rw [List.length_append]; rfl) rfl (txC_append _ _).symm (ecC_append _ _).symm rfl (hw.to 6 [2, 3, 4, 5] 0 [] rfl)
      exact h9.derive (ψ := RdF ({ d with rows := d.rows ++ [(⟨(applyGo h.tx 0 l), l, oa, ca⟩ : StR)] } : RD)) (fun K hf => RdF.grow (hf _ hD) (hf _ hl))
theorem rapp_spec {l : List PE} {oa : Option Addr} {ca : Nat} {b : Nat} {d : RD} {h : Hs} {M : List HP} {F : List Fact} (hr : RelR d h) (hD : RdF d ∈ F) (hl : ArrF oa (peC l) ∈ F) (hll : l.length ≤ 1099511627776) (htp : txsP l ≤ 1099511627776) (hv : h.v < 1099511627776) : Ctr Try.prog 60 [.pointer (some ⟨b, 0, none⟩), .slice oa l.length ca] (RdB 101 9 26 39 b (d) :: M) F {q : RD // RelR q (appH h l).2} (fun _ => I (appH h l).1) (fun q => RdB 101 9 26 39 b (q.1) :: M) (fun q => RdF q.1 :: F) := by
  refine Ctr.body Try.func60 rfl rfl ?_
  refine TR.seq ?_
  refine TR.region ?_
  refine RL.assign rfl rfl rfl ?_
  refine RL.nil ?_
  refine NX.seq ?_
  refine TR.seq ?_
  refine TR.region ?_
  refine RL.move rfl rfl rfl ?_
  refine RL.call rfl rfl Try.call25 rfl (rtext_spec hr) (fun _ => ?_)
  refine RL.move rfl rfl rfl ?_
  refine RL.call rfl rfl Try.call82 rfl (rbytes_spec (tx := h.tx) (l := l) hl (by have := hr.ok.tx; omega) (by omega)) (fun zb => ?_)
  refine RL.move rfl rfl rfl ?_
  refine RL.extract rfl rfl rfl rfl ?_
  refine RL.extract rfl rfl rfl rfl ?_
  refine RL.assign rfl rfl rfl ?_
  refine RL.assign rfl rfl rfl ?_
  refine RL.nil ?_
  refine NX.seq ?_
  refine TR.seq ?_
  refine TR.seq ?_
  refine TR.region ?_
  refine RL.move rfl rfl rfl ?_
  refine RL.bin rfl rfl rfl BinV.neq rfl ?_
  refine RL.nil ?_
  refine NX.seq ?_
  refine TR.cond rfl (fun h1 => ?_) (fun h1 => ?_)
  · skip
    have hz : (posM h.tx l).2 ≠ 0 := of_decide_eq_true h1
    refine TR.seq ?_
    refine TR.region ?_
    refine RL.move rfl rfl rfl ?_
    refine RL.assign rfl rfl rfl ?_
    refine RL.nil ?_
    refine NX.seq ?_
    refine TR.ret ?_
    refine NX.retThen ?_
    have hae : appH h l = ((posM h.tx l).2, h) := if_pos hz
    exact NX.ret1 (⟨d, by rw [hae]; exact hr⟩ : {q : RD // RelR q (appH h l).2}) rfl rfl (by rw [hae]; rfl) (fun w hw => (show St w (RdB 101 9 26 39 b (d) :: M) F from (hw.to 1 [0] 1 [] rfl)).derive (ψ := RdF d) (fun K hf => hf _ hD))
  · skip
    have hz : ¬ (posM h.tx l).2 ≠ 0 := of_decide_eq_false h1
    have hpl := posM_len h.tx l
    have htx := hr.ok.tx
    have hb : soundE h.tx.length (posM h.tx l).1 = 0 → (applyGo h.tx 0 (posM h.tx l).1).length ≤ 140737488355328 := fun e => by
      have := apply_le (s := h.tx) (es := (posM h.tx l).1) (q := 0) (soundE_sound1 e)
      have := posM_txs h.tx l
      omega
    refine TR.skip ?_
    refine NX.seq ?_
    refine TR.seq ?_
    refine TR.region ?_
    refine RL.move rfl rfl rfl ?_
    refine RL.move rfl rfl rfl ?_
    refine RL.call rfl rfl Try.call61 rfl (rbec_spec (l := (posM h.tx l).1) hr (.tail _ hD) (.head _) (by omega) hb hv) (fun q => ?_)
    refine RL.assign rfl rfl rfl ?_
    refine RL.nil ?_
    refine NX.seq ?_
    refine TR.ret ?_
    have hae : appH h l = becH h (posM h.tx l).1 := if_neg hz
    refine NX.ret1 (⟨q.1, by rw [hae]; exact q.2⟩ : {q : RD // RelR q (appH h l).2}) rfl rfl (by rw [hae]) (fun w hw => (hw.to 1 [0] 2 [0] rfl))
theorem rnew_spec {tx : List UInt8} {ver : Int} {M : List HP} {F : List Fact} (htx : tx.length ≤ 4096) (hv0 : 0 ≤ ver) (hv1 : ver ≤ 1099511627776) : Ctr Try.prog 22 [S tx, I ver] M F {q : Nat × RD // RelR q.2 ⟨ver, [(tx, [])], []⟩} (fun q => .tuple #[.pointer (some ⟨q.1.1, 0, none⟩), I 0]) (fun q => RdB 101 9 26 39 q.1.1 (q.1.2) :: M) (fun q => RdF q.1.2 :: F) := by
  refine Ctr.body Try.func22 rfl rfl ?_
  refine TR.seq ?_
  refine TR.region ?_
  refine RL.assign rfl rfl rfl ?_
  refine RL.assign rfl rfl rfl ?_
  refine RL.nil ?_
  refine NX.seq ?_
  refine TR.seq ?_
  refine TR.seq ?_
  refine TR.region ?_
  refine RL.move rfl rfl rfl ?_
  refine RL.lenStr rfl re_tstr9 rfl rfl ?_
  refine RL.bin rfl rfl rfl (BinV.to (d := false) BinV.gtr (decide_eq_false (by omega))) rfl ?_
  refine RL.nil ?_
  refine NX.seq ?_
  refine TR.condF rfl ?_
  refine TR.skip ?_
  refine NX.seq ?_
  refine TR.seq ?_
  refine TR.seq ?_
  refine TR.region ?_
  refine RL.move rfl rfl rfl ?_
  refine RL.bin rfl rfl rfl (BinV.to (d := false) BinV.lss (decide_eq_false (by omega))) rfl ?_
  refine RL.move rfl rfl rfl ?_
  refine RL.move rfl rfl rfl ?_
  refine RL.bin rfl rfl rfl (BinV.to (d := false) BinV.gtr (decide_eq_false (by omega))) rfl ?_
  refine RL.pickF rfl rfl rfl rfl ?_
  refine RL.nil ?_
  refine NX.seq ?_
  refine TR.condF rfl ?_
  refine TR.skip ?_
  refine NX.seq ?_
  refine TR.seq ?_
  refine TR.region ?_
  refine RL.move rfl rfl rfl ?_
  refine RL.move rfl rfl rfl ?_
  refine RL.buildSlice rfl rfl (re_bs98_1_0 _) rfl (fun b1 => ?_)
  refine RL.weak (fun w hw => St.boxSl (n := 1) (size := 1) rfl (by decide) hw) ?_
  refine RL.buildSlice rfl rfl (re_bs99_1_0 _ _ _) rfl (fun b2 => ?_)
  refine RL.weak (fun w hw => St.boxSl (n := 1) (size := 1) rfl (by decide) hw) ?_
  refine RL.build rfl rfl (re_bv101_0_1_2 _ _ _ _ _ _ _) rfl ?_
  refine RL.boxA rfl rfl rfl (fun b3 => ?_)
  refine RL.weak (fun w hw => (OwnSl.nil_new 39 2 hw).swap) ?_
  refine RL.assign rfl rfl rfl ?_
  refine RL.assign rfl rfl rfl ?_
  refine RL.nil ?_
  refine NX.seq ?_
  refine TR.ret ?_
  refine NX.ret2 (⟨(b3, ⟨ver, [⟨tx, [], none, 0⟩], []⟩), RelR.new htx hv0 hv1⟩ : {q : Nat × RD // RelR q.2 ⟨ver, [(tx, [])], []⟩}) rfl rfl rfl rfl (fun w hw => ?_)
  have h9 : St w (RdB 101 9 26 39 b3 (⟨ver, [⟨tx, [], none, 0⟩], []⟩) :: M) F := St.rdClose rfl rfl rfl rfl rfl rfl rfl (show St w (_ :: _ :: _ :: _ :: M) F from (hw.to 4 [0, 3, 2, 1] 0 [] rfl))
  exact h9.derive (fun K hf => ⟨fun r hr => by rw [List.mem_singleton.1 hr]; exact .inl rfl, fun x hx => absurd hx (by simp)⟩)
end Go.Proofs.Ytkdeopioelocnaa
