/- The law DocumentPositions holds: whatever the input, it returns true and the input reads as it did. No condition. -/
import Derived.Test.YtkdeopioelocnaaPsxe
set_option linter.unusedVariables false
set_option linter.unusedSimpArgs false
namespace Go.Proofs.Ytkdeopioelocnaa
open Go.GL
set_option linter.unusedVariables false
theorem qs_bs23_1_0 (x00 : Int) (x01 : Option Addr) (x01n x01c : Nat) : BuildSV Try.prog 23 39 1 [(0, .agg #[.int .i64 x00, .slice x01 x01n x01c])] [.int .i64 x00, .slice x01 x01n x01c] := fun w => by kernel_rfl
theorem qs_bs28_1_0 (x000 : Int) (x001 : Int) (x010 : Int) (x011 : Int) (x02 : List UInt8) : BuildSV Try.prog 28 63 1 [(0, .agg #[.int .i64 x000, .int .i64 x001, .int .i64 x010, .int .i64 x011, S x02])] [.int .i64 x000, .int .i64 x001, .int .i64 x010, .int .i64 x011, S x02] := fun w => by kernel_rfl
theorem qs_bv39_0_1 (x0 : Int) (x1 : Option Addr) (x1n x1c : Nat) : BuildV Try.prog 39 [(0, .int .i64 x0), (1, .slice x1 x1n x1c)] (.agg #[.int .i64 x0, .slice x1 x1n x1c]) := fun w => by kernel_rfl
theorem qs_bv63_0_1_2 (x00 : Int) (x01 : Int) (x10 : Int) (x11 : Int) (x2 : List UInt8) : BuildV Try.prog 63 [(0, .agg #[.int .i64 x00, .int .i64 x01]), (1, .agg #[.int .i64 x10, .int .i64 x11]), (2, S x2)] (.agg #[.int .i64 x00, .int .i64 x01, .int .i64 x10, .int .i64 x11, S x2]) := fun w => by kernel_rfl
theorem qs_ni23 : noInt Try.prog 23 = true := by kernel_rfl
theorem qs_ni28 : noInt Try.prog 28 = true := by kernel_rfl
theorem qs_ta61 : tyAgg Try.prog 61 2 = true := by kernel_rfl
theorem qs_te39 : tyElem Try.prog 39 2 32 = true := by kernel_rfl
theorem qs_te63 : tyElem Try.prog 63 5 48 = true := by kernel_rfl
theorem qs_tf78_0 : fieldOff Try.prog 78 0 0 = true := by kernel_rfl
theorem qs_tf78_1 : fieldOff Try.prog 78 1 1 = true := by kernel_rfl
theorem qs_tf78_2 : fieldOff Try.prog 78 2 2 = true := by kernel_rfl
theorem qs_tl22 : tySlice Try.prog 22 3 = true := by kernel_rfl
theorem qs_tl23 : tySlice Try.prog 23 39 = true := by kernel_rfl
theorem qs_tl26 : tySlice Try.prog 26 78 = true := by kernel_rfl
theorem qs_tl28 : tySlice Try.prog 28 63 = true := by kernel_rfl
theorem qs_ts3 : tyScalar Try.prog 3 = true := by kernel_rfl
theorem qs_ts9 : tyScalar Try.prog 9 = true := by kernel_rfl
theorem qs_tstr9 : tyStr Try.prog 9 = true := by kernel_rfl
theorem qs_tz61 : tySize Try.prog 61 2 = true := by kernel_rfl
theorem qs_tz78 : tySize Try.prog 78 3 = true := by kernel_rfl
set_option maxHeartbeats 1000000 in
theorem positions_spec {tx : List UInt8} {es : List Ed} {oa : Option Addr} {ca : Nat} {M : List HP} {F : List Fact} (ha : ArrF oa (edC es) ∈ F) (hl : es.length ≤ 1000000) (htl : tx.length ≤ 1099511627776) (hi64 : ∀ e, e ∈ es → I64 e.f ∧ I64 e.t) : Ctr Try.prog 12 [S tx, .slice oa es.length ca] M F (Option Addr × Nat) (fun z => .tuple #[.slice z.1 (posE tx es []).1.length z.2, .bool (posE tx es []).2]) (fun _ => M) (fun z => ArrF z.1 (peC (posE tx es []).1) :: F) := by
  refine Ctr.body Try.func12 rfl rfl ?_
  refine TR.seq ?_
  refine TR.region ?_
  refine RL.assign rfl rfl rfl ?_
  refine RL.assign rfl rfl rfl ?_
  refine RL.nil ?_
  refine NX.seq ?_
  refine TR.seq ?_
  refine TR.region ?_
  refine RL.assign rfl rfl rfl ?_
  refine RL.weak (fun w hw => OwnSl.nil_new 63 5 hw) ?_
  refine RL.nil ?_
  refine NX.seq ?_
  refine TR.seq ?_
  refine TR.seq ?_
  refine TR.region ?_
  refine RL.assign rfl rfl rfl ?_
  refine RL.nil ?_
  refine NX.seq ?_
  refine TR.block ?_
  refine TR.loopP (ι := PsX) (fun x => x.k ≤ es.length ∧ posE tx (es.drop x.k) x.l = posE tx es [] ∧ x.l.length = x.k) (fun x => [(0, S tx), (1, .slice oa es.length ca), (6, .slice x.oa x.l.length x.c), (7, I (x.k : Nat))]) (fun x => OwnSl 63 5 x.oa x.l.length x.c (peC x.l) :: M) (fun x => F) (fun x => es.length - x.k) ⟨0, [], none, 0⟩ ⟨Nat.zero_le _, rfl, rfl⟩ ⟨rfl, rfl, rfl, rfl, trivial⟩ (fun w hw => (hw.to 1 [0] 0 [] rfl)) (fun x hx => ?_)
  refine TR.seq ?_
  refine TR.seq ?_
  refine TR.region ?_
  refine RL.move rfl rfl rfl ?_
  refine RL.move rfl rfl rfl ?_
  refine RL.lenSlice rfl qs_tl26 rfl rfl ?_
  refine RL.bin rfl rfl rfl BinV.lss rfl ?_
  refine RL.nil ?_
  refine NX.seq ?_
  refine TR.cond rfl (fun h1 => ?_) (fun h1 => ?_)
  · skip
    have hk : x.k < es.length := by have := of_decide_eq_true h1; omega
    have hdk := List.drop_eq_getElem_cons hk
    refine TR.openP (open_arr (oa := oa) (xs := edC es) ha (fun e => by have h8 := edC_length es; rw [e] at h8; simp at h8; omega)) (fun pe hpe => ?_)
    refine TR.skip ?_
    refine NX.seq ?_
    refine TR.seq ?_
    refine TR.block ?_
    refine TR.seq ?_
    refine TR.region ?_
    refine RL.move rfl rfl rfl ?_
    refine RL.move rfl rfl rfl ?_
    refine RL.move rfl rfl rfl ?_
    refine RL.indexAddr rfl qs_tl26 qs_tz78 (congrArg (fun a => some (Value.slice a _ _)) hpe) rfl (by omega) (by omega) rfl ?_
    refine RL.fieldAddr rfl qs_tf78_0 rfl rfl ?_
    refine RL.loadF rfl rfl (fun w K hF => run_loadCell1 (j := (((x.k : Nat) : Int)).toNat * 3 + 0) (v := I es[x.k].f) (hF (CellsF pe.1 pe.2 (edC es)) (.head _)) qs_ts3 (by rw [Int.toNat_natCast]; exact edC_at hk rfl)) rfl ?_
    refine RL.call rfl rfl Try.call46 rfl (atp_spec (tx := tx) (off := es[x.k].f) htl (hi64 _ (List.getElem_mem hk)).1) (fun _ => ?_)
    refine RL.move rfl rfl rfl ?_
    refine RL.extract rfl rfl rfl rfl ?_
    refine RL.extract rfl rfl rfl rfl ?_
    refine RL.allocA rfl (Try.zeroValue61) rfl (fun b2 => ?_)
    refine RL.storeA 0 rfl rfl rfl rfl qs_tz61 rfl rfl ?_
    refine RL.assign rfl rfl rfl ?_
    refine RL.nil ?_
    refine NX.seq ?_
    refine TR.seq ?_
    refine TR.region ?_
    refine RL.move rfl rfl rfl ?_
    refine RL.move rfl rfl rfl ?_
    refine RL.move rfl rfl rfl ?_
    refine RL.indexAddr rfl qs_tl26 qs_tz78 (congrArg (fun a => some (Value.slice a _ _)) hpe) rfl (by omega) (by omega) rfl ?_
    refine RL.fieldAddr rfl qs_tf78_1 rfl rfl ?_
    refine RL.loadF rfl rfl (fun w K hF => run_loadCell1 (j := (((x.k : Nat) : Int)).toNat * 3 + 1) (v := I es[x.k].t) (hF (CellsF pe.1 pe.2 (edC es)) (.head _)) qs_ts3 (by rw [Int.toNat_natCast]; exact edC_at hk rfl)) rfl ?_
    refine RL.call rfl rfl Try.call46 rfl (atp_spec (tx := tx) (off := es[x.k].t) htl (hi64 _ (List.getElem_mem hk)).2) (fun _ => ?_)
    refine RL.move rfl rfl rfl ?_
    refine RL.extract rfl rfl rfl rfl ?_
    refine RL.extract rfl rfl rfl rfl ?_
    refine RL.allocA rfl (Try.zeroValue61) rfl (fun b3 => ?_)
    refine RL.storeA 0 rfl rfl rfl rfl qs_tz61 rfl rfl ?_
    refine RL.assign rfl rfl rfl ?_
    refine RL.nil ?_
    refine NX.seq ?_
    refine TR.seq ?_
    refine TR.seq ?_
    refine TR.region ?_
    refine RL.move rfl rfl rfl ?_
    refine RL.bin rfl rfl rfl BinV.neq rfl ?_
    refine RL.move rfl rfl rfl ?_
    refine RL.part (fun h4 => ?_) (fun h4 => ?_)
    · skip
      have hbad : (atP tx es[x.k].f).2 ≠ 0 ∨ (atP tx es[x.k].t).2 ≠ 0 := .inl (of_decide_eq_true h4)
      refine RL.skip rfl rfl rfl ?_
      refine RL.skip rfl rfl rfl ?_
      refine RL.pickT rfl rfl rfl rfl ?_
      refine RL.nil ?_
      refine NX.seq ?_
      refine TR.condT rfl ?_
      refine TR.seq ?_
      refine TR.region ?_
      refine RL.assign rfl rfl rfl ?_
      refine RL.assign rfl rfl rfl ?_
      refine RL.nil ?_
      refine NX.seq ?_
      refine TR.ret ?_
      refine NX.retThen ?_
      refine NX.retBlock ?_
      refine NX.retThen ?_
      refine NX.retThen ?_
      refine NX.retBlock ?_
      refine NX.retThen ?_
      have hpn : posE tx es [] = ([], false) := by rw [← hx.2.1, hdk, posE, if_pos hbad]
      refine NX.ret2 ((none, 0) : Option Addr × Nat) rfl rfl rfl (by rw [hpn]; rfl) (fun w hw => ?_)
      rw [hpn]
      exact ((hw.to 3 [] 1 [] rfl) : St w M F).derive (ψ := ArrF none (peC [])) (fun K hf => .inl rfl)
    · skip
      have hA := of_decide_eq_false h4
      refine RL.move rfl rfl rfl ?_
      refine RL.bin rfl rfl rfl BinV.neq rfl ?_
      refine RL.pickF rfl rfl rfl rfl ?_
      refine RL.nil ?_
      refine NX.seq ?_
      refine TR.cond rfl (fun h5 => ?_) (fun h5 => ?_)
      · skip
        have hbad : (atP tx es[x.k].f).2 ≠ 0 ∨ (atP tx es[x.k].t).2 ≠ 0 := .inr (of_decide_eq_true h5)
        refine TR.seq ?_
        refine TR.region ?_
        refine RL.assign rfl rfl rfl ?_
        refine RL.assign rfl rfl rfl ?_
        refine RL.nil ?_
        refine NX.seq ?_
        refine TR.ret ?_
        refine NX.retThen ?_
        refine NX.retBlock ?_
        refine NX.retThen ?_
        refine NX.retThen ?_
        refine NX.retBlock ?_
        refine NX.retThen ?_
        have hpn : posE tx es [] = ([], false) := by rw [← hx.2.1, hdk, posE, if_pos hbad]
        refine NX.ret2 ((none, 0) : Option Addr × Nat) rfl rfl rfl (by rw [hpn]; rfl) (fun w hw => ?_)
        rw [hpn]
        exact ((hw.to 3 [] 1 [] rfl) : St w M F).derive (ψ := ArrF none (peC [])) (fun K hf => .inl rfl)
      · skip
        have hok : ¬ ((atP tx es[x.k].f).2 ≠ 0 ∨ (atP tx es[x.k].t).2 ≠ 0) := by have := of_decide_eq_false h5; rintro (h | h) <;> contradiction
        refine TR.skip ?_
        refine NX.seq ?_
        refine TR.sub (E' := [(0, _), (1, _), (6, _), (7, _), (8, _), (9, _), (10, _), (11, _), (12, _), (13, _), (14, _), (15, _), (18, _), (19, _), (20, _), (21, _), (22, _), (23, _), (24, _), (25, _), (26, _), (27, _), (28, _), (29, _), (30, _), (31, _), (32, _), (33, _), (34, _), (35, _), (36, _), (37, _), (38, _), (39, _), (40, _), (41, _), (42, _), (43, _)]) ⟨rfl, rfl, rfl, rfl, rfl, rfl, rfl, rfl, rfl, rfl, rfl, rfl, rfl, rfl, rfl, rfl, rfl, rfl, rfl, rfl, rfl, rfl, rfl, rfl, rfl, rfl, rfl, rfl, rfl, rfl, rfl, rfl, rfl, rfl, rfl, rfl, rfl, rfl, trivial⟩ ?_
        refine TR.draw mixed ?_
        apply AR.more [(0, _), (1, _), (2, _), (3, _), (4, _), (5, _), (6, _), (7, _), (8, _)]
        refine AR.eff [0, 1, 2, 3, 4, 5, 6, 7, 8] 9 [0, 1, 2, 3, 4, 5, 6, 7, 8, 9, 10, 11] ⟨QOne.yes rfl rfl rfl (PV.move rfl), QOne.yes rfl rfl rfl (PV.loadA 1 rfl rfl qs_ta61), QOne.yes rfl rfl rfl (PV.loadA 0 rfl rfl qs_ta61), QOne.yes rfl rfl rfl (PV.move rfl), QOne.yes rfl rfl rfl (PV.move rfl), QOne.yes rfl rfl rfl (PV.indexAddr qs_tl26 qs_tz78 (congrArg (fun a => some (Value.slice a _ _)) hpe) rfl (by omega) (by omega)), QOne.yes rfl rfl rfl (PV.fieldAddr qs_tf78_2 rfl), QOne.yes rfl rfl rfl (PV.loadF rfl (fun w K hF => run_loadCell1 (j := (((x.k : Nat) : Int)).toNat * 3 + 2) (v := S es[x.k].x) (hF (CellsF pe.1 pe.2 (edC es)) (.head _)) qs_ts9 (by rw [Int.toNat_natCast]; exact edC_at hk rfl))), QOne.yes rfl rfl rfl (PV.build rfl (qs_bv63_0_1_2 _ _ _ _ _)), trivial⟩ rfl rfl rfl rfl rfl rfl rfl (EV.buildSlice rfl (qs_bs28_1_0 _ _ _ _ _)) (fun b6 => ?_)
        refine AR.done [8, 1, 2, 7, 6, 5, 3, 4] rfl ?_
        refine AR.eff [0] 10 [0, 1, 2, 3, 4, 5, 6, 7, 8, 9, 10, 11] ⟨QOne.yes rfl rfl rfl (PV.move rfl), trivial⟩ rfl rfl rfl rfl rfl rfl rfl (EV.ofGV (GV.append (j := 3) qs_tl28 qs_ni28 qs_te63 rfl rfl rfl (src_box (i := 0) rfl rfl rfl) (by omega) (by omega))) (fun y => ?_)
        refine AR.done [0] rfl ?_
        apply AR.more [(11, _)]
        refine AR.last [11] [0, 1, 2, 3, 4, 5, 6, 7, 8, 9, 10, 11] ⟨QOne.yes rfl rfl rfl (PV.assign rfl), trivial⟩ rfl rfl rfl ?_
        refine NX.sub (E' := [(0, _), (1, _), (6, _), (7, _), (8, _), (9, _), (10, _), (11, _), (12, _), (13, _), (14, _), (15, _), (18, _), (19, _), (20, _), (21, _), (22, _), (23, _), (24, _), (25, _), (26, _), (27, _), (28, _), (29, _), (30, _), (31, _), (32, _), (33, _), (34, _), (35, _), (36, _), (37, _), (38, _), (39, _), (40, _), (41, _), (42, _), (43, _), (44, _), (45, _), (46, _), (47, _), (48, _), (49, _), (50, _), (51, _), (52, _), (53, _), (54, _)]) ⟨rfl, rfl, rfl, rfl, rfl, rfl, rfl, rfl, rfl, rfl, rfl, rfl, rfl, rfl, rfl, rfl, rfl, rfl, rfl, rfl, rfl, rfl, rfl, rfl, rfl, rfl, rfl, rfl, rfl, rfl, rfl, rfl, rfl, rfl, rfl, rfl, rfl, rfl, rfl, rfl, rfl, rfl, rfl, rfl, rfl, rfl, rfl, rfl, rfl, trivial⟩ ?_
        refine NX.off ?_
        refine NX.seq ?_
        refine TR.region ?_
        refine RL.move rfl rfl rfl ?_
        refine RL.bin rfl rfl rfl (BinV.add _ rfl (by omega) (by omega)) rfl ?_
        refine RL.assign rfl rfl rfl ?_
        refine RL.nil ?_
        refine NX.roundP ⟨x.k + 1, x.l ++ [posOf tx es[x.k]], y.1, y.2⟩ ⟨hk, by rw [← hx.2.1, hdk, posE, if_neg hok], by show (x.l ++ [_]).length = x.k + 1; rw [List.length_append]; show x.l.length + 1 = _; omega⟩ (by show _ - (x.k + 1) < _ - x.k; omega) ⟨rfl, rfl, ?_, rfl, trivial⟩ (fun w hw => ?_)
        · show some (Value.slice y.1 (x.l.length + 1) y.2) = some (Value.slice y.1 (x.l ++ [_]).length y.2)
          rw [List.length_append]; rfl
        · have h9 := (hw.to 4 [3] 1 [] rfl)
          show St w (OwnSl 63 5 y.1 (x.l ++ [_]).length y.2 (peC (x.l ++ [_])) :: M) _
          rw [List.length_append, show ∀ a b : List PE, peC (a ++ b) = peC a ++ peC b from peC_append]
          exact h9
  · skip
    have hk2 : x.k = es.length := by have := of_decide_eq_false h1; have := hx.1; omega
    refine TR.exit ?_
    refine NX.exitThen ?_
    refine NX.exitThen ?_
    refine NX.exitHere ?_
    refine NX.seq ?_
    refine TR.seq ?_
    refine TR.region ?_
    refine RL.move rfl rfl rfl ?_
    refine RL.assign rfl rfl rfl ?_
    refine RL.assign rfl rfl rfl ?_
    refine RL.nil ?_
    refine NX.seq ?_
    refine TR.ret ?_
    have hpn : posE tx es [] = (x.l, true) := by rw [← hx.2.1, hk2, List.drop_length]; rfl
    refine NX.ret2 ((x.oa, x.c) : Option Addr × Nat) rfl rfl rfl (by rw [hpn]) (fun w hw => ?_)
    rw [hpn]
    exact ((hw.to 1 [0] 0 [] rfl) : St w _ _).keepSl

set_option maxHeartbeats 2000000 in
theorem chain_spec {xs : List Int} {oa : Option Addr} {ca most : Nat} {M : List HP} {F : List Fact} (ha : ArrF oa (ints xs) ∈ F) (hc : xs.length ≤ ca) (hxs : IntsOk xs) (hm8 : most ≤ 8) : Ctr Try.prog 10 [.slice oa xs.length ca, I (most : Nat)] M F {z : ChZ // z.t.length ≤ 96 ∧ z.rows.length ≤ 8 ∧ ChOk ⟨0, [(z.t, [])], []⟩ (z.rows.map HeR.p)} (fun z => .tuple #[S z.1.t, .slice z.1.oa z.1.rows.length z.1.c]) (fun _ => M) (fun z => ArrF z.1.oa (heC z.1.rows) :: HeF z.1.rows :: F) := by
  refine Ctr.body Try.func10 rfl rfl ?_
  refine TR.seq ?_
  refine TR.region ?_
  refine RL.assign rfl rfl rfl ?_
  refine RL.assign rfl rfl rfl ?_
  refine RL.nil ?_
  refine NX.seq ?_
  refine TR.seq ?_
  refine TR.region ?_
  refine RL.move rfl rfl rfl ?_
  refine RL.call rfl rfl Try.call43 rfl (part_spec (xs := xs) (a := 0) (n := 12) ha hc hxs.1 (by decide) (by decide)) (fun z0 => ?_)
  refine RL.call rfl rfl Try.call42 rfl (gtext_spec (xs := partL xs 0 12) (.head _) (partL_ok hxs)) (fun q0 => ?_)
  refine RL.assign rfl rfl rfl ?_
  refine RL.nil ?_
  refine NX.seq ?_
  refine TR.seq ?_
  refine TR.region ?_
  refine RL.move rfl rfl rfl ?_
  refine RL.assign rfl rfl rfl ?_
  refine RL.nil ?_
  refine NX.seq ?_
  refine TR.seq ?_
  refine TR.region ?_
  refine RL.assign rfl rfl rfl ?_
  refine RL.weak (fun w hw => (OwnSl.nil_new 39 2 hw).derive (ψ := HeF []) (fun K hf => fun r hr => absurd hr (by simp))) ?_
  refine RL.nil ?_
  refine NX.seq ?_
  refine TR.seq ?_
  refine TR.seq ?_
  refine TR.region ?_
  refine RL.assign rfl rfl rfl ?_
  refine RL.nil ?_
  refine NX.seq ?_
  refine TR.block ?_
  refine TR.loopP (ι := ChX) (fun x => x.rows.length ≤ most ∧ ChOk (⟨0, [(q0.1, [])], []⟩ : Hs) (x.rows.map HeR.p) ∧ x.h = endH (⟨0, [(q0.1, [])], []⟩ : Hs) (x.rows.map HeR.p) ∧ x.h.v = x.rows.length ∧ x.h.tx.length ≤ 4096) (fun x => [(0, .slice oa xs.length ca), (1, I (most : Nat)), (6, S q0.1), (7, S x.h.tx), (8, .slice x.oa x.rows.length x.c), (9, I (x.rows.length : Nat))]) (fun x => OwnSl 39 2 x.oa x.rows.length x.c (heC x.rows) :: M) (fun x => HeF x.rows :: F) (fun x => most - x.rows.length) ⟨[], (⟨0, [(q0.1, [])], []⟩ : Hs), none, 0⟩ ⟨Nat.zero_le _, trivial, rfl, rfl, by have := q0.2; show q0.1.length ≤ 4096; omega⟩ ⟨rfl, rfl, rfl, rfl, rfl, rfl, trivial⟩ (fun w hw => (hw.to 1 [0] 2 [0] rfl)) (fun x hx => ?_)
  refine TR.seq ?_
  refine TR.seq ?_
  refine TR.region ?_
  refine RL.move rfl rfl rfl ?_
  refine RL.move rfl rfl rfl ?_
  refine RL.bin rfl rfl rfl BinV.lss rfl ?_
  refine RL.move rfl rfl rfl ?_
  refine RL.part (fun h1 => ?_) (fun h1 => ?_)
  · skip
    have hi := of_decide_eq_true h1
    have hxr := hx.1
    refine RL.move rfl rfl rfl ?_
    refine RL.bin rfl rfl rfl (BinV.mul ((10 * x.rows.length : Nat) : Int) (by omega) (by omega) (by omega)) rfl ?_
    refine RL.bin rfl rfl rfl (BinV.add _ rfl (by omega) (by omega)) rfl ?_
    refine RL.move rfl rfl rfl ?_
    refine RL.lenSlice rfl qs_tl22 rfl rfl ?_
    refine RL.bin rfl rfl rfl BinV.lss rfl ?_
    refine RL.pickT rfl rfl rfl rfl ?_
    refine RL.nil ?_
    refine NX.seq ?_
    refine TR.cond rfl (fun h2 => ?_) (fun h2 => ?_)
    · skip
      refine TR.skip ?_
      refine NX.seq ?_
      refine TR.seq ?_
      refine TR.block ?_
      refine TR.seq ?_
      have htl : x.h.tx.length ≤ 4096 := hx.2.2.2.2
      refine TR.region ?_
      refine RL.move rfl rfl rfl ?_
      refine RL.move rfl rfl rfl ?_
      refine RL.move rfl rfl rfl ?_
      refine RL.bin rfl rfl rfl (BinV.mul ((10 * x.rows.length : Nat) : Int) (by omega) (by omega) (by omega)) rfl ?_
      refine RL.bin rfl rfl rfl (BinV.add ((12 + 10 * x.rows.length : Nat) : Int) (by omega) (by omega) (by omega)) rfl ?_
      refine RL.call rfl rfl Try.call43 rfl (part_spec (xs := xs) (a := 12 + 10 * x.rows.length) (n := 16) (.tail _ ha) hc hxs.1 (by omega) (by decide)) (fun z1 => ?_)
      refine RL.call rfl rfl Try.call11 rfl (gEdits_spec (tx := x.h.tx) (xs := partL xs (12 + 10 * x.rows.length) 16) (.head _) (partL_ok hxs) (by omega)) (fun z => ?_)
      refine RL.assign rfl rfl rfl ?_
      refine RL.nil ?_
      refine NX.seq ?_
      refine TR.seq ?_
      refine TR.region ?_
      refine RL.move rfl rfl rfl ?_
      refine RL.move rfl rfl rfl ?_
      refine RL.call rfl rfl Try.call12 rfl (positions_spec (tx := x.h.tx) (es := z.1.es) (.head _) (by have := z.2.1; omega) (by omega) (fun e he => sound1_in (by omega) (soundE_sound1 z.2.sound) he)) (fun zp => ?_)
      refine RL.move rfl rfl rfl ?_
      refine RL.extract rfl rfl rfl rfl ?_
      refine RL.extract rfl rfl rfl rfl ?_
      refine RL.assign rfl rfl rfl ?_
      refine RL.assign rfl rfl rfl ?_
      refine RL.nil ?_
      refine NX.seq ?_
      refine TR.seq ?_
      refine TR.region ?_
      refine RL.move rfl rfl rfl ?_
      refine RL.move rfl rfl rfl ?_
      refine RL.call rfl rfl Try.call44 rfl (rapply_spec (s := x.h.tx) (es := z.1.es) (.tail _ (.head _)) (by have := z.2.1; omega) (by omega) (fun _ => by have := z.2.len; omega)) (fun _ => ?_)
      refine RL.move rfl rfl rfl ?_
      refine RL.extract rfl rfl rfl rfl ?_
      refine RL.extract rfl rfl rfl rfl ?_
      refine RL.assign rfl rfl rfl ?_
      refine RL.assign rfl rfl rfl ?_
      refine RL.nil ?_
      refine NX.seq ?_
      refine TR.seq ?_
      refine TR.seq ?_
      rw [applyE_ok z.2.sound]
      refine TR.region ?_
      refine RL.move rfl rfl rfl ?_
      refine RL.not rfl rfl rfl ?_
      refine RL.move rfl rfl rfl ?_
      refine RL.part (fun h3 => ?_) (fun h3 => ?_)
      · skip
        refine RL.skip rfl rfl rfl ?_
        refine RL.skip rfl rfl rfl ?_
        refine RL.pickT rfl rfl rfl rfl ?_
        refine RL.move rfl rfl rfl ?_
        refine RL.skip rfl rfl rfl ?_
        refine RL.skip rfl rfl rfl ?_
        refine RL.skip rfl rfl rfl ?_
        refine RL.pickT rfl rfl rfl rfl ?_
        refine RL.nil ?_
        refine NX.seq ?_
        refine TR.condT rfl ?_
        refine TR.seq ?_
        refine TR.region ?_
        refine RL.move rfl rfl rfl ?_
        refine RL.move rfl rfl rfl ?_
        refine RL.assign rfl rfl rfl ?_
        refine RL.assign rfl rfl rfl ?_
        refine RL.nil ?_
        refine NX.seq ?_
        refine TR.ret ?_
        refine NX.retThen ?_
        refine NX.retBlock ?_
        refine NX.retThen ?_
        refine NX.retThen ?_
        refine NX.retBlock ?_
        refine NX.retThen ?_
        refine NX.ret2 (⟨⟨q0.1, x.rows, x.oa, x.c⟩, q0.2, by show x.rows.length ≤ 8; omega, hx.2.1⟩ : {z : ChZ // z.t.length ≤ 96 ∧ z.rows.length ≤ 8 ∧ ChOk ⟨0, [(z.t, [])], []⟩ (z.rows.map HeR.p)}) rfl rfl rfl rfl (fun w hw => ?_)
        have h9 := ((hw.to 1 [0] 4 [3] rfl) : St w _ _)
        exact h9.keepSl
      · skip
        have hps : (posE x.h.tx z.1.es []).2 = true := by simpa using h3
        refine RL.move rfl rfl rfl ?_
        refine RL.bin rfl rfl rfl (BinV.to (d := false) BinV.neq (decide_eq_false (by unfold applyE; rw [if_pos z.2.sound]; simp))) rfl ?_
        refine RL.pickF rfl rfl rfl rfl ?_
        refine RL.move rfl rfl rfl ?_
        refine RL.move rfl rfl rfl ?_
        refine RL.lenStr rfl qs_tstr9 rfl rfl ?_
        refine RL.bin rfl rfl rfl BinV.gtr rfl ?_
        refine RL.pickF rfl rfl rfl rfl ?_
        refine RL.nil ?_
        refine NX.seq ?_
        refine TR.cond rfl (fun h4 => ?_) (fun h4 => ?_)
        · skip
          refine TR.seq ?_
          refine TR.region ?_
          refine RL.move rfl rfl rfl ?_
          refine RL.move rfl rfl rfl ?_
          refine RL.assign rfl rfl rfl ?_
          refine RL.assign rfl rfl rfl ?_
          refine RL.nil ?_
          refine NX.seq ?_
          refine TR.ret ?_
          refine NX.retThen ?_
          refine NX.retBlock ?_
          refine NX.retThen ?_
          refine NX.retThen ?_
          refine NX.retBlock ?_
          refine NX.retThen ?_
          refine NX.ret2 (⟨⟨q0.1, x.rows, x.oa, x.c⟩, q0.2, by show x.rows.length ≤ 8; omega, hx.2.1⟩ : {z : ChZ // z.t.length ≤ 96 ∧ z.rows.length ≤ 8 ∧ ChOk ⟨0, [(z.t, [])], []⟩ (z.rows.map HeR.p)}) rfl rfl rfl rfl (fun w hw => ?_)
          have h9 := ((hw.to 1 [0] 4 [3] rfl) : St w _ _)
          exact h9.keepSl
        · skip
          have hbig : ¬ 4096 < (applyGo x.h.tx 0 z.1.es).length := by have := of_decide_eq_false h4; omega
          obtain ⟨g1, g2, g3, g4⟩ := app_pos z.2.sound hps hbig
          have g5 := tx_of x.h (applyGo x.h.tx 0 z.1.es) z.1.es
          have g6 := (apply_sum (Nat.zero_le _) (soundE_sound1 z.2.sound)).2
          have hpl : (posE x.h.tx z.1.es []).1.length = z.1.es.length := g1
          have hz5 := z.2.1
          refine TR.skip ?_
          refine NX.seq ?_
          refine TR.seq ?_
          refine TR.region ?_
          refine RL.move rfl rfl rfl ?_
          refine RL.move rfl rfl rfl ?_
          refine RL.bin rfl rfl rfl (BinV.add _ rfl (by omega) (by omega)) rfl ?_
          refine RL.move rfl rfl rfl ?_
          refine RL.build rfl rfl (qs_bv39_0_1 _ _ _ _) rfl ?_
          refine RL.buildSlice rfl rfl (qs_bs23_1_0 _ _ _ _) rfl (fun b5 => ?_)
          refine RL.ofGV rfl rfl (GV.append (j := 1) qs_tl23 qs_ni23 qs_te39 rfl rfl rfl (src_box (i := 0) rfl rfl rfl) (by omega) (by omega)) (fun y => ?_)
          refine RL.assign rfl rfl rfl ?_
          refine RL.nil ?_
          refine NX.seq ?_
          refine TR.region ?_
          refine RL.move rfl rfl rfl ?_
          refine RL.assign rfl rfl rfl ?_
          refine RL.nil ?_
          refine NX.off ?_
          refine NX.seq ?_
          refine TR.region ?_
          refine RL.move rfl rfl rfl ?_
          refine RL.bin rfl rfl rfl (BinV.add _ rfl (by omega) (by omega)) rfl ?_
          refine RL.assign rfl rfl rfl ?_
          refine RL.nil ?_
          refine NX.roundP ⟨x.rows ++ [(⟨(x.rows.length : Int) + 1, (posE x.h.tx z.1.es []).1, zp.1, zp.2⟩ : HeR)], { x.h with hist := x.h.hist ++ [(applyGo x.h.tx 0 z.1.es, z.1.es)] }, y.1, y.2⟩ ⟨by show (x.rows ++ [_]).length ≤ most; rw [List.length_append]; show x.rows.length + 1 ≤ most; omega, by show ChOk _ ((x.rows ++ [_]).map HeR.p); rw [List.map_append]; exact hx.2.1.snoc (by rw [← hx.2.2.1]; exact ⟨by rw [hx.2.2.2.1], by show (posE x.h.tx z.1.es []).1.length ≤ 64; omega, by show txsP (posE x.h.tx z.1.es []).1 ≤ _; omega, by show (appH x.h (posE x.h.tx z.1.es []).1).1 = 0; rw [g4]⟩), by show _ = endH _ ((x.rows ++ [_]).map HeR.p); rw [List.map_append, List.map_singleton, endH_snoc, ← hx.2.2.1]; show _ = (appH x.h (posE x.h.tx z.1.es []).1).2; rw [g4], by rw [g5.2, hx.2.2.2.1, List.length_append]; rfl, by rw [g5.1]; omega⟩ (by show most - (x.rows ++ [_]).length < _; rw [List.length_append]; show most - (x.rows.length + 1) < _; omega) ⟨rfl, rfl, rfl, by rw [g5.1]; rfl, ?_, ?_, trivial⟩ (fun w hw => ?_)
          · show some (Value.slice y.1 (x.rows.length + 1) y.2) = some (Value.slice y.1 (x.rows ++ [_]).length y.2)
            rw [List.length_append]; rfl
          · show some (I ((x.rows.length : Int) + 1)) = some (I (((x.rows ++ [_]).length : Nat) : Int))
            rw [List.length_append]; rfl
          · have h9 := ((hw.to 2 [1] 4 [3, 0] rfl) : St w _ _)
            have h8 : St w (OwnSl 39 2 y.1 (x.rows ++ [(⟨(x.rows.length : Int) + 1, (posE x.h.tx z.1.es []).1, zp.1, zp.2⟩ : HeR)]).length y.2 (heC (x.rows ++ [(⟨(x.rows.length : Int) + 1, (posE x.h.tx z.1.es []).1, zp.1, zp.2⟩ : HeR)])) :: M) (HeF (x.rows ++ [(⟨(x.rows.length : Int) + 1, (posE x.h.tx z.1.es []).1, zp.1, zp.2⟩ : HeR)]) :: HeF x.rows :: ArrF zp.1 (peC (posE x.h.tx z.1.es []).1) :: F) := by
              refine St.derive ?_ (fun K hf => HeF.snoc (hf (HeF x.rows) (.head _)) (hf (ArrF zp.1 (peC (posE x.h.tx z.1.es []).1)) (.tail _ (.head _))))
              rw [List.length_append, heC_append]
              exact h9
            exact h8.facts (fun φ h => by rcases List.mem_cons.1 h with e | h; exact e ▸ .head _; exact .tail _ (.tail _ (.tail _ h)))
    · skip
      refine TR.exit ?_
      refine NX.exitThen ?_
      refine NX.exitThen ?_
      refine NX.exitHere ?_
      refine NX.seq ?_
      refine TR.seq ?_
      refine TR.region ?_
      refine RL.move rfl rfl rfl ?_
      refine RL.move rfl rfl rfl ?_
      refine RL.assign rfl rfl rfl ?_
      refine RL.assign rfl rfl rfl ?_
      refine RL.nil ?_
      refine NX.seq ?_
      refine TR.ret ?_
      refine NX.ret2 (⟨⟨q0.1, x.rows, x.oa, x.c⟩, q0.2, by show x.rows.length ≤ 8; omega, hx.2.1⟩ : {z : ChZ // z.t.length ≤ 96 ∧ z.rows.length ≤ 8 ∧ ChOk ⟨0, [(z.t, [])], []⟩ (z.rows.map HeR.p)}) rfl rfl rfl rfl (fun w hw => ?_)
      have h9 := ((hw.to 1 [0] 1 [0] rfl) : St w _ _)
      exact h9.keepSl
  · skip
    refine RL.skip rfl rfl rfl ?_
    refine RL.skip rfl rfl rfl ?_
    refine RL.skip rfl rfl rfl ?_
    refine RL.skip rfl rfl rfl ?_
    refine RL.skip rfl rfl rfl ?_
    refine RL.skip rfl rfl rfl ?_
    refine RL.pickF rfl rfl rfl rfl ?_
    refine RL.nil ?_
    refine NX.seq ?_
    refine TR.condF rfl ?_
    refine TR.exit ?_
    refine NX.exitThen ?_
    refine NX.exitThen ?_
    refine NX.exitHere ?_
    refine NX.seq ?_
    refine TR.seq ?_
    refine TR.region ?_
    refine RL.move rfl rfl rfl ?_
    refine RL.move rfl rfl rfl ?_
    refine RL.assign rfl rfl rfl ?_
    refine RL.assign rfl rfl rfl ?_
    refine RL.nil ?_
    refine NX.seq ?_
    refine TR.ret ?_
    refine NX.ret2 (⟨⟨q0.1, x.rows, x.oa, x.c⟩, q0.2, by show x.rows.length ≤ 8; omega, hx.2.1⟩ : {z : ChZ // z.t.length ≤ 96 ∧ z.rows.length ≤ 8 ∧ ChOk ⟨0, [(z.t, [])], []⟩ (z.rows.map HeR.p)}) rfl rfl rfl rfl (fun w hw => ?_)
    have h9 := ((hw.to 1 [0] 1 [0] rfl) : St w _ _)
    exact h9.keepSl

end Go.Proofs.Ytkdeopioelocnaa

namespace Go.Proofs.Ytkdeopioelocnaa
open Go.GL
set_option linter.unusedVariables false
theorem qt_bs23_1_0 (x00 : Int) (x01 : Option Addr) (x01n x01c : Nat) : BuildSV Try.prog 23 39 1 [(0, .agg #[.int .i64 x00, .slice x01 x01n x01c])] [.int .i64 x00, .slice x01 x01n x01c] := fun w => by kernel_rfl
theorem qt_ni23 : noInt Try.prog 23 = true := by kernel_rfl
theorem qt_ta39 : tyAgg Try.prog 39 2 = true := by kernel_rfl
theorem qt_te39 : tyElem Try.prog 39 2 32 = true := by kernel_rfl
theorem qt_tl23 : tySlice Try.prog 23 39 = true := by kernel_rfl
theorem qt_tz39 : tySize Try.prog 39 2 = true := by kernel_rfl
set_option maxHeartbeats 1000000 in
theorem shuffled_spec {rows : List HeR} {xs : List Int} {oa ox : Option Addr} {ca cx : Nat} {M : List HP} {F : List Fact} (ha : ArrF oa (heC rows) ∈ F) (hR : HeF rows ∈ F) (hx0 : ArrF ox (ints xs) ∈ F) (hxs : IntsOk xs) (hl : rows.length ≤ 1000) : Ctr Try.prog 31 [.slice oa rows.length ca, .slice ox xs.length cx] M F {z : RwX // (∀ r, r ∈ z.l ↔ r ∈ rows) ∧ z.l.length ≤ rows.length + 3} (fun z => .slice z.1.oa z.1.l.length z.1.c) (fun _ => M) (fun z => ArrF z.1.oa (heC z.1.l) :: HeF z.1.l :: F) := by
  refine Ctr.body Try.func31 rfl rfl ?_
  refine TR.seq ?_
  refine TR.region ?_
  refine RL.assign rfl rfl rfl ?_
  refine RL.nil ?_
  refine NX.seq ?_
  refine TR.seq ?_
  refine TR.region ?_
  refine RL.assign rfl rfl rfl ?_
  refine RL.weak (fun w hw => OwnSl.nil_new 39 2 hw) ?_
  refine RL.nil ?_
  refine NX.seq ?_
  refine TR.seq ?_
  refine TR.region ?_
  refine RL.move rfl rfl rfl ?_
  refine RL.move rfl rfl rfl ?_
  refine RL.ofGV rfl rfl (GV.append (j := 0) qt_tl23 qt_ni23 qt_te39 rfl rfl rfl (src_rd (rd_fact ha) (heC_length rows) (heC_one rows)) (by omega) (by omega)) (fun y0 => ?_)
  refine RL.assign rfl rfl rfl ?_
  refine RL.nil ?_
  refine NX.seq ?_
  refine TR.seq ?_
  refine TR.seq ?_
  refine TR.region ?_
  refine RL.assign rfl rfl rfl ?_
  refine RL.nil ?_
  refine NX.seq ?_
  refine TR.block ?_
  refine TR.loopP (ι := RwX) (fun x => x.k ≤ x.l.length ∧ (∀ r, r ∈ x.l ↔ r ∈ rows) ∧ x.l.length = rows.length) (fun x => [(0, .slice oa rows.length ca), (1, .slice ox xs.length cx), (5, .slice x.oa x.l.length x.c), (6, I (x.k : Nat))]) (fun x => OwnSl 39 2 x.oa x.l.length x.c (heC x.l) :: M) (fun x => F) (fun x => x.l.length - x.k) ⟨0, rows, y0.1, y0.2⟩ ⟨Nat.zero_le _, fun r => Iff.rfl, rfl⟩ ⟨rfl, rfl, by show some (Value.slice y0.1 (0 + rows.length) y0.2) = _; rw [Nat.zero_add], rfl, trivial⟩ (fun w hw => (by have h9 : St w (OwnSl 39 2 y0.1 (0 + rows.length) y0.2 ([] ++ heC rows) :: M) F := hw; rw [Nat.zero_add] at h9; exact h9)) (fun x hx => ?_)
  refine TR.seq ?_
  refine TR.seq ?_
  refine TR.region ?_
  refine RL.move rfl rfl rfl ?_
  refine RL.move rfl rfl rfl ?_
  refine RL.lenSlice rfl qt_tl23 rfl rfl ?_
  refine RL.bin rfl rfl rfl BinV.lss rfl ?_
  refine RL.nil ?_
  refine NX.seq ?_
  refine TR.cond rfl (fun h2 => ?_) (fun h2 => ?_)
  · skip
    have hk : x.k < x.l.length := by have := of_decide_eq_true h2; omega
    refine TR.openP (fun w hw => own_at (i := 0) rfl (heC_ne (by omega)) hw) (fun g1 hg1 => ?_)
    refine TR.skip ?_
    refine NX.seq ?_
    refine TR.seq ?_
    refine TR.block ?_
    refine TR.seq ?_
    refine TR.region ?_
    refine RL.move rfl rfl rfl ?_
    refine RL.move rfl rfl rfl ?_
    refine RL.move rfl rfl rfl ?_
    refine RL.move rfl rfl rfl ?_
    refine RL.lenSlice rfl qt_tl23 rfl rfl ?_
    refine RL.move rfl rfl rfl ?_
    refine RL.bin rfl rfl rfl (BinV.sub _ rfl (by omega) (by omega)) rfl ?_
    refine RL.call rfl rfl Try.call24 rfl (pick_spec (m := (x.l.length : Int) - x.k) hx0 hxs (by omega)) (fun rp => ?_)
    obtain ⟨rpv, rph⟩ := rp
    obtain ⟨r, rfl⟩ : ∃ r : Nat, rpv = r := ⟨rpv.toNat, by omega⟩
    dsimp only
    refine RL.bin rfl rfl rfl (BinV.add ((x.k + r : Nat) : Int) (by omega) (by omega) (by omega)) rfl ?_
    refine RL.assign rfl rfl rfl ?_
    refine RL.nil ?_
    refine NX.seq ?_
    refine TR.seq ?_
    obtain ⟨k, hkr, hkl⟩ : ∃ k : Nat, k = x.k + r ∧ k < x.l.length := ⟨_, rfl, by omega⟩
    rw [← hkr]
    refine TR.region ?_
    refine RL.move rfl rfl rfl ?_
    refine RL.move rfl rfl rfl ?_
    refine RL.indexAddr rfl qt_tl23 qt_tz39 (congrArg (fun a => some (Value.slice a _ _)) hg1) rfl (by omega) (by omega) rfl ?_
    refine RL.loadS rfl rfl (own_agg (vs := x.l[x.k].cs) (i := 0) rfl hg1 qt_ta39 (fun j v hj => heC_at1 (l := x.l) (k := x.k) (j := j) hk hj)) rfl ?_
    refine RL.allocA rfl (Try.zeroValue39) rfl (fun b3 => ?_)
    refine RL.storeA 0 rfl rfl rfl rfl qt_tz39 rfl rfl ?_
    refine RL.nil ?_
    refine NX.seq ?_
    refine TR.seq ?_
    refine TR.region ?_
    refine RL.move rfl rfl rfl ?_
    refine RL.move rfl rfl rfl ?_
    refine RL.move rfl rfl rfl ?_
    refine RL.move rfl rfl rfl ?_
    refine RL.indexAddr rfl qt_tl23 qt_tz39 (congrArg (fun a => some (Value.slice a _ _)) hg1) rfl (by omega) (by omega) rfl ?_
    refine RL.loadS rfl rfl (own_agg (vs := x.l[k].cs) (i := 1) rfl hg1 qt_ta39 (fun j v hj => heC_at1 (l := x.l) (k := k) (j := j) hkl hj)) rfl ?_
    refine RL.indexAddr rfl qt_tl23 qt_tz39 (congrArg (fun a => some (Value.slice a _ _)) hg1) rfl (by omega) (by omega) rfl ?_
    refine RL.ofEV rfl rfl (EV.storeO (vs := (x.l[k]).cs) (oa := x.oa) (xs := heC x.l) 1 rfl rfl rfl hg1 qt_tz39 rfl (by show 0 + ((x.k : Nat) : Int).toNat * 2 + 2 ≤ (heC x.l).length; rw [heC_length, Int.toNat_natCast]; omega) rfl) ?_
    rw [heC_setT x.l x.k hk (x.l[k])]
    refine RL.nil ?_
    refine NX.seq ?_
    refine TR.region ?_
    refine RL.move rfl rfl rfl ?_
    refine RL.move rfl rfl rfl ?_
    refine RL.loadA 0 rfl rfl rfl qt_ta39 rfl ?_
    refine RL.indexAddr rfl qt_tl23 qt_tz39 (congrArg (fun a => some (Value.slice a _ _)) hg1) rfl (by omega) (by omega) rfl ?_
    refine RL.ofEV rfl rfl (EV.storeO (vs := (x.l[x.k]).cs) (oa := x.oa) (xs := heC (x.l.set x.k x.l[k])) 1 rfl rfl rfl hg1 qt_tz39 rfl (by show 0 + ((k : Nat) : Int).toNat * 2 + 2 ≤ (heC (x.l.set x.k x.l[k])).length; rw [heC_length, Int.toNat_natCast, List.length_set]; omega) rfl) ?_
    rw [heC_setT (x.l.set x.k x.l[k]) k (by rw [List.length_set]; exact hkl) (x.l[x.k])]
    refine RL.nil ?_
    refine NX.off ?_
    refine NX.seq ?_
    refine TR.region ?_
    refine RL.move rfl rfl rfl ?_
    refine RL.bin rfl rfl rfl (BinV.add _ rfl (by omega) (by omega)) rfl ?_
    refine RL.assign rfl rfl rfl ?_
    refine RL.nil ?_
    refine NX.roundP ⟨x.k + 1, ((x.l.set x.k x.l[k]).set k x.l[x.k]), x.oa, x.c⟩ ⟨by show x.k + 1 ≤ ((x.l.set x.k x.l[k]).set k x.l[x.k]).length; rw [List.length_set, List.length_set]; omega, fun r => (mem_swap hk hkl r).trans (hx.2.1 r), by show ((x.l.set x.k x.l[k]).set k x.l[x.k]).length = _; rw [List.length_set, List.length_set, hx.2.2]⟩ (by show ((x.l.set x.k x.l[k]).set k x.l[x.k]).length - (x.k + 1) < _; rw [List.length_set, List.length_set]; omega) ⟨rfl, rfl, by show some (Value.slice x.oa x.l.length x.c) = some (Value.slice x.oa ((x.l.set x.k x.l[k]).set k x.l[x.k]).length x.c); rw [List.length_set, List.length_set], rfl, trivial⟩ (fun w hw => (by have h9 := (hw.to 2 [1] 0 [] rfl); show St w (OwnSl 39 2 x.oa ((x.l.set x.k x.l[k]).set k x.l[x.k]).length x.c (heC ((x.l.set x.k x.l[k]).set k x.l[x.k])) :: M) F; rw [List.length_set, List.length_set]; exact h9))
  · skip
    refine TR.exit ?_
    refine NX.exitThen ?_
    refine NX.exitThen ?_
    refine NX.exitHere ?_
    refine NX.seq ?_
    refine TR.seq ?_
    refine TR.seq ?_
    refine TR.region ?_
    refine RL.assign rfl rfl rfl ?_
    refine RL.nil ?_
    refine NX.seq ?_
    refine TR.block ?_
    refine TR.loopP (ι := RwX) (fun z => z.k ≤ 3 ∧ (∀ r, r ∈ z.l ↔ r ∈ rows) ∧ z.l.length = rows.length + z.k) (fun z => [(0, .slice oa rows.length ca), (1, .slice ox xs.length cx), (5, .slice z.oa z.l.length z.c), (9, I (z.k : Nat))]) (fun z => OwnSl 39 2 z.oa z.l.length z.c (heC z.l) :: M) (fun z => F) (fun z => 3 - z.k) ⟨0, x.l, x.oa, x.c⟩ ⟨Nat.zero_le _, hx.2.1, hx.2.2⟩ ⟨rfl, rfl, rfl, rfl, trivial⟩ (fun w hw => (hw.to 1 [0] 0 [] rfl)) (fun z hz => ?_)
    refine TR.seq ?_
    refine TR.seq ?_
    refine TR.region ?_
    refine RL.move rfl rfl rfl ?_
    refine RL.move rfl rfl rfl ?_
    refine RL.lenSlice rfl qt_tl23 rfl rfl ?_
    refine RL.bin rfl rfl rfl BinV.lss rfl ?_
    refine RL.move rfl rfl rfl ?_
    refine RL.part (fun h4 => ?_) (fun h4 => ?_)
    · skip
      have hi1 := of_decide_eq_true h4
      refine RL.move rfl rfl rfl ?_
      refine RL.bin rfl rfl rfl BinV.lss rfl ?_
      refine RL.pickT rfl rfl rfl rfl ?_
      refine RL.nil ?_
      refine NX.seq ?_
      refine TR.cond rfl (fun h5 => ?_) (fun h5 => ?_)
      · skip
        have hi2 := of_decide_eq_true h5
        have hzl := hz.2.2
        refine TR.openP (open_arr (oa := oa) (xs := heC rows) ha (heC_ne (by omega))) (fun pr hpr => ?_)
        refine TR.open1 (fun w hw => ⟨(hw.front (i := 0) rfl).ownLen, hw⟩) (fun hol => ?_)
        refine TR.skip ?_
        refine NX.seq ?_
        refine TR.seq ?_
        refine TR.block ?_
        refine TR.seq ?_
        refine TR.region ?_
        refine RL.move rfl rfl rfl ?_
        refine RL.move rfl rfl rfl ?_
        refine RL.lenSlice rfl qt_tl23 rfl rfl ?_
        refine RL.move rfl rfl rfl ?_
        refine RL.bin rfl rfl rfl (BinV.add _ rfl (by omega) (by omega)) rfl ?_
        refine RL.move rfl rfl rfl ?_
        refine RL.lenSlice rfl qt_tl23 rfl rfl ?_
        refine RL.bin rfl rfl rfl (BinV.add _ rfl (by omega) (by omega)) rfl ?_
        refine RL.call rfl rfl Try.call24 rfl (pick_spec (m := (z.l.length : Int) + 1) (.tail _ hx0) hxs (by omega)) (fun rk => ?_)
        obtain ⟨rkv, rkh⟩ := rk
        obtain ⟨k, rfl⟩ : ∃ k : Nat, rkv = k := ⟨rkv.toNat, by omega⟩
        dsimp only
        refine RL.assign rfl rfl rfl ?_
        refine RL.nil ?_
        refine NX.seq ?_
        refine TR.seq ?_
        refine TR.region ?_
        refine RL.assign rfl rfl rfl ?_
        refine RL.weak (fun w hw => OwnSl.nil_new 39 2 hw) ?_
        refine RL.nil ?_
        refine NX.seq ?_
        refine TR.seq ?_
        refine TR.region ?_
        refine RL.move rfl rfl rfl ?_
        refine RL.move rfl rfl rfl ?_
        refine RL.move rfl rfl rfl ?_
        refine RL.sliceLH (l := 0) (h := k) rfl qt_tl23 qt_tz39 rfl (.inl ⟨rfl, rfl⟩) (.inr ⟨_, rfl, rfl⟩) (by omega) (by omega) rfl ?_
        refine RL.ofGV rfl rfl (GV.append (j := 0) qt_tl23 qt_ni23 qt_te39 rfl rfl rfl (src_rd ((rd_own (i := 1) rfl).heTake k (by omega) hol.2) (by rw [heC_length, List.length_take]; omega) (heC_one _)) (by omega) (by omega)) (fun y1 => ?_)
        refine RL.assign rfl rfl rfl ?_
        refine RL.nil ?_
        refine NX.seq ?_
        refine TR.seq ?_
        refine TR.region ?_
        refine RL.move rfl rfl rfl ?_
        refine RL.move rfl rfl rfl ?_
        refine RL.move rfl rfl rfl ?_
        refine RL.move rfl rfl rfl ?_
        refine RL.lenSlice rfl qt_tl23 rfl rfl ?_
        refine RL.bin rfl rfl rfl (BinV.add _ rfl (by omega) (by omega)) rfl ?_
        refine RL.move rfl rfl rfl ?_
        refine RL.bin rfl rfl rfl (BinV.add _ rfl (by omega) (by omega)) rfl ?_
        refine RL.move rfl rfl rfl ?_
        refine RL.lenSlice rfl qt_tl23 rfl rfl ?_
        refine RL.call rfl rfl Try.call24 rfl (pick_spec (m := (rows.length : Int)) (.tail _ hx0) hxs (by omega)) (fun rq => ?_)
        obtain ⟨rqv, rqh⟩ := rq
        obtain ⟨q, rfl⟩ : ∃ q : Nat, rqv = q := ⟨rqv.toNat, by omega⟩
        dsimp only
        have hq : q < rows.length := by omega
        refine RL.indexAddr rfl qt_tl23 qt_tz39 (congrArg (fun a => some (Value.slice a _ _)) hpr) rfl (by omega) (by omega) rfl ?_
        refine RL.loadF rfl rfl (fun w K hF => run_he (hF (CellsF pr.1 pr.2 (heC rows)) (.head _)) qt_ta39 hq) rfl ?_
        refine RL.buildSlice rfl rfl (qt_bs23_1_0 _ _ _ _) rfl (fun b7 => ?_)
        refine RL.ofGV rfl rfl (GV.append (j := 1) qt_tl23 qt_ni23 qt_te39 rfl rfl rfl (src_box (i := 0) rfl rfl rfl) (by omega) (by omega)) (fun y2 => ?_)
        refine RL.assign rfl rfl rfl ?_
        refine RL.nil ?_
        refine NX.seq ?_
        refine TR.region ?_
        refine RL.move rfl rfl rfl ?_
        refine RL.move rfl rfl rfl ?_
        refine RL.move rfl rfl rfl ?_
        refine RL.sliceLH (l := k) (h := z.l.length) rfl qt_tl23 qt_tz39 rfl (.inr ⟨_, rfl, rfl⟩) (.inl ⟨rfl, rfl⟩) (by omega) hol.2 rfl ?_
        refine RL.ofGV rfl rfl (GV.append (j := 1) qt_tl23 qt_ni23 qt_te39 rfl rfl rfl (src_rd ((rd_own (i := 2) rfl).heDrop k (by omega) hol.2) (by rw [heC_length, List.length_drop]) (heC_one _)) (by omega) (by omega)) (fun y3 => ?_)
        refine RL.assign rfl rfl rfl ?_
        refine RL.nil ?_
        refine NX.off ?_
        refine NX.seq ?_
        refine TR.region ?_
        refine RL.move rfl rfl rfl ?_
        refine RL.bin rfl rfl rfl (BinV.add _ rfl (by omega) (by omega)) rfl ?_
        refine RL.assign rfl rfl rfl ?_
        refine RL.nil ?_
        refine NX.roundP ⟨z.k + 1, (z.l.take k ++ [rows[q]] ++ z.l.drop k), y3.1, y3.2⟩ ⟨by show z.k + 1 ≤ 3; omega, fun r => (mem_mid (l := z.l)).trans ⟨fun h => h.elim (hz.2.1 r).1 (fun e => e ▸ List.getElem_mem hq), fun h => .inl ((hz.2.1 r).2 h)⟩, by show (z.l.take k ++ [rows[q]] ++ z.l.drop k).length = _; rw [mid_len (by omega)]; show z.l.length + 1 = rows.length + (z.k + 1); omega⟩ (by show 3 - (z.k + 1) < _; omega) ⟨rfl, rfl, by show some (Value.slice y3.1 (0 + (k - 0) + 1 + (z.l.length - k)) y3.2) = some (Value.slice y3.1 (z.l.take k ++ [rows[q]] ++ z.l.drop k).length y3.2); rw [mid_len (by omega)]; congr 2; omega, rfl, trivial⟩ (fun w hw => (by have h9 := (hw.to 3 [1] 1 [] rfl); show St w (OwnSl 39 2 y3.1 (z.l.take k ++ [rows[q]] ++ z.l.drop k).length y3.2 (heC (z.l.take k ++ [rows[q]] ++ z.l.drop k)) :: M) F; rw [heC_append, heC_append, mid_len (by omega)]; have e9 : 0 + (k - 0) + 1 + (z.l.length - k) = z.l.length + 1 := (by omega); rw [← e9]; exact h9))
      · skip
        refine TR.exit ?_
        refine NX.exitThen ?_
        refine NX.exitThen ?_
        refine NX.exitHere ?_
        refine NX.seq ?_
        refine TR.seq ?_
        refine TR.region ?_
        refine RL.move rfl rfl rfl ?_
        refine RL.assign rfl rfl rfl ?_
        refine RL.nil ?_
        refine NX.seq ?_
        refine TR.ret ?_
        refine NX.ret1 (⟨⟨z.k, z.l, z.oa, z.c⟩, hz.2.1, by have := hz.1; have := hz.2.2; show z.l.length ≤ _; omega⟩ : {z : RwX // (∀ r, r ∈ z.l ↔ r ∈ rows) ∧ z.l.length ≤ rows.length + 3}) rfl rfl rfl (fun w hw => ?_)
        have h9 := ((hw.to 1 [0] 0 [] rfl) : St w _ F)
        exact (h9.keepSl.derive (ψ := HeF z.l) (fun K hf => HeF.sub (hf (HeF rows) (.tail _ hR)) (fun r hr => (hz.2.1 r).1 hr))).facts (fun φ h => by rcases List.mem_cons.1 h with e | h; exact e ▸ .tail _ (.head _); rcases List.mem_cons.1 h with e | h; exact e ▸ .head _; exact .tail _ (.tail _ h))
    · skip
      refine RL.skip rfl rfl rfl ?_
      refine RL.skip rfl rfl rfl ?_
      refine RL.pickF rfl rfl rfl rfl ?_
      refine RL.nil ?_
      refine NX.seq ?_
      refine TR.condF rfl ?_
      refine TR.exit ?_
      refine NX.exitThen ?_
      refine NX.exitThen ?_
      refine NX.exitHere ?_
      refine NX.seq ?_
      refine TR.seq ?_
      refine TR.region ?_
      refine RL.move rfl rfl rfl ?_
      refine RL.assign rfl rfl rfl ?_
      refine RL.nil ?_
      refine NX.seq ?_
      refine TR.ret ?_
      refine NX.ret1 (⟨⟨z.k, z.l, z.oa, z.c⟩, hz.2.1, by have := hz.1; have := hz.2.2; show z.l.length ≤ _; omega⟩ : {z : RwX // (∀ r, r ∈ z.l ↔ r ∈ rows) ∧ z.l.length ≤ rows.length + 3}) rfl rfl rfl (fun w hw => ?_)
      have h9 := ((hw.to 1 [0] 0 [] rfl) : St w _ F)
      exact (h9.keepSl.derive (ψ := HeF z.l) (fun K hf => HeF.sub (hf (HeF rows) (.tail _ hR)) (fun r hr => (hz.2.1 r).1 hr))).facts (fun φ h => by rcases List.mem_cons.1 h with e | h; exact e ▸ .tail _ (.head _); rcases List.mem_cons.1 h with e | h; exact e ▸ .head _; exact .tail _ (.tail _ h))

end Go.Proofs.Ytkdeopioelocnaa

namespace Go.GL
set_option linter.unusedVariables false
abbrev insA (c : UInt8) : List PE := [⟨⟨0, 0⟩, ⟨0, 0⟩, [c]⟩]
def vOf (n : Int) (dn : Bool) (i : Nat) : Int := if dn = true then 1 + n - i else 2 + i
structure HdX where
  k : Nat
  d : Dp
  h : Hs
structure HdI (n : Int) (dn : Bool) (k : Nat) (h : Hs) : Prop where
  first : h.first = 0
  hist : h.hist = [([], [])]
  all : ∀ p, p ∈ h.held → p.2 = insA 97 ∧ 2 ≤ p.1 ∧ p.1 ≤ n + 1
  old : ∀ j : Nat, k ≤ j → (j : Int) < n → ∀ p, p ∈ h.held → p.1 ≠ vOf n dn j
theorem vOf_in {n : Int} {dn : Bool} {k : Nat} (h : (k : Int) < n) : 2 ≤ vOf n dn k ∧ vOf n dn k ≤ n + 1 := by
  unfold vOf; split <;> omega
theorem vOf_inj {n : Int} {dn : Bool} {j k : Nat} (h : vOf n dn j = vOf n dn k) : j = k := by
  unfold vOf at h; split at h <;> omega
theorem HdI.v {n : Int} {dn : Bool} {k : Nat} {h : Hs} (r : HdI n dn k h) : h.v = 0 := by unfold Hs.v; rw [r.first, r.hist]; rfl
theorem HdI.new {n : Int} {dn : Bool} : HdI n dn 0 ⟨0, [([], [])], []⟩ := ⟨rfl, rfl, fun p hp => absurd hp (by simp), fun j _ _ p hp => absurd hp (by simp)⟩
theorem HdI.skip {n : Int} {dn : Bool} {k : Nat} {h : Hs} (r : HdI n dn k h) : HdI n dn (k + 1) h := ⟨r.first, r.hist, r.all, fun j hj => r.old j (by omega)⟩
theorem hGet_is_none : ∀ {l : Hd} {k : Int}, (∀ p, p ∈ l → p.1 ≠ k) → hGet l k = none
  | [], k, _ => rfl
  | p :: l, k, h => by rw [hGet, if_neg (h p (.head _))]; exact hGet_is_none fun q hq => h q (.tail _ hq)
theorem HdI.get {n : Int} {dn : Bool} {k : Nat} {h : Hs} (r : HdI n dn k h) (hk : (k : Int) < n) : hGet h.held (vOf n dn k) = none := hGet_is_none (r.old k (Nat.le_refl _) hk)
theorem HdI.recv_full {n : Int} {dn : Bool} {k : Nat} {h : Hs} (r : HdI n dn k h) (hk : (k : Int) < n) (hn : n ≤ 20) (hf : 16 ≤ h.held.length) : recvH h (vOf n dn k) (insA 97) = ((0, 4), h) := by
  have h1 := vOf_in (dn := dn) hk
  unfold recvH
  rw [r.v, if_neg (by omega), if_neg (by decide), if_neg (by rw [r.get hk]; simp; omega), if_pos (by omega), if_pos hf]
theorem HdI.recv_ok {n : Int} {dn : Bool} {k : Nat} {h : Hs} (r : HdI n dn k h) (hk : (k : Int) < n) (hn : n ≤ 20) (hf : ¬ 16 ≤ h.held.length) : recvH h (vOf n dn k) (insA 97) = ((0, 0), { h with held := h.held ++ [(vOf n dn k, insA 97)] }) := by
  have h1 := vOf_in (dn := dn) hk
  unfold recvH
  rw [r.v, if_neg (by omega), if_neg (by decide), if_neg (by rw [r.get hk]; simp; omega), if_pos (by omega), if_neg hf]
theorem HdI.more {n : Int} {dn : Bool} {k : Nat} {h : Hs} (r : HdI n dn k h) (hk : (k : Int) < n) : HdI n dn (k + 1) { h with held := h.held ++ [(vOf n dn k, insA 97)] } := by
  refine ⟨r.first, r.hist, fun p hp => ?_, fun j hj hjn p hp => ?_⟩
  · rcases List.mem_append.1 hp with hp | hp
    · exact r.all p hp
    · rw [List.mem_singleton.1 hp]; exact ⟨rfl, vOf_in hk⟩
  · rcases List.mem_append.1 hp with hp | hp
    · exact r.old j (by omega) hjn p hp
    · rw [List.mem_singleton.1 hp]; exact fun e => by have := vOf_inj e; omega
/-! ### Changes that follow without a gap -/
theorem off00 (s : List UInt8) : offM s ⟨0, 0⟩ = (0, 0) := by
  unfold offM
  have h1 : ¬ ((0 : Int) < 0 ∨ ((linesL s).length : Int) ≤ 0 ∨ (0 : Int) < 0) := by
    have : 0 < (linesL s).length := by unfold linesL; simp
    omega
  rw [if_neg h1]
  exact offGo_hit rfl
theorem pos_insA (s : List UInt8) (c : UInt8) : posM s (insA c) = ([⟨0, 0, [c]⟩], 0) := by
  unfold posM
  rw [if_neg (by simp), posGo_cons, off00, if_neg (by decide), if_neg (by decide)]; rfl
theorem app_insA (h : Hs) (c : UInt8) (hl : h.tx.length + 1 ≤ 4096) : appH h (insA c) = (0, { h with hist := h.hist ++ [(c :: h.tx, [⟨0, 0, [c]⟩])] }) := by
  unfold appH
  rw [pos_insA, if_neg (by simp)]
  unfold becH
  have e : applyGo h.tx 0 [⟨0, 0, [c]⟩] = c :: h.tx := by simp [applyGo]
  have e2 : soundE h.tx.length [⟨0, 0, [c]⟩] = 0 := by
    unfold soundE; rw [if_neg (by simp)]; simp [sound1]
  rw [e, e2, if_neg (by decide), if_neg (by simp; omega)]
theorem hDel_len : ∀ {l : Hd} {k : Int}, (l.map Prod.fst).Nodup → (∃ p, p ∈ l ∧ p.1 = k) → (hDel l k).length + 1 = l.length
  | [], k, _, ⟨p, hp, _⟩ => absurd hp (by simp)
  | q :: l, k, hn, ⟨p, hp, e⟩ => by
    rw [List.map_cons, List.nodup_cons] at hn
    unfold hDel
    rw [List.filter_cons]
    by_cases h1 : q.1 = k
    · rw [if_neg (by simpa using h1)]
      have : l.filter (fun p => !decide (p.1 = k)) = l := List.filter_eq_self.2 fun x hx => by
        have : x.1 ≠ k := fun e2 => hn.1 (List.mem_map.2 ⟨x, hx, by rw [e2, h1]⟩)
        simpa using this
      rw [this, List.length_cons]
    · rw [if_pos (by simpa using h1), List.length_cons, List.length_cons]
      have hp : p ∈ l := by
        rcases List.mem_cons.1 hp with rfl | hp
        · exact absurd e h1
        · exact hp
      have := hDel_len hn.2 ⟨p, hp, e⟩
      unfold hDel at this
      omega
theorem hGet_some : ∀ {l : Hd} {k : Int}, (∃ p, p ∈ l ∧ p.1 = k) → ∃ x, hGet l k = some x
  | [], k, ⟨p, hp, _⟩ => absurd hp (by simp)
  | q :: l, k, ⟨p, hp, e⟩ => by
    rw [hGet]
    split
    · exact ⟨_, rfl⟩
    · rename_i h1
      rcases List.mem_cons.1 hp with rfl | hp
      · exact absurd e h1
      · exact hGet_some ⟨p, hp, e⟩
theorem hDel_mem {l : Hd} {k : Int} {p : Int × List PE} : p ∈ hDel l k ↔ p ∈ l ∧ p.1 ≠ k := by
  unfold hDel; rw [List.mem_filter]; simp
theorem drain_run : ∀ (j : Nat) {n : Int} {h : Hs}, h.hist ≠ [] → (∀ p, p ∈ h.held → p.2 = insA 97) → (h.held.map Prod.fst).Nodup → (∀ m : Int, h.v < m → m ≤ h.v + j → ∃ p, p ∈ h.held ∧ p.1 = m) → (∀ p, p ∈ h.held → p.1 ≠ h.v + j + 1) → h.tx.length + j ≤ 4096 →
    (drainH n h).1 = n + j ∧ (drainH n h).2.v = h.v + j ∧ (drainH n h).2.tx.length = h.tx.length + j ∧ (drainH n h).2.held.length + j = h.held.length
  | 0, n, h, h0, h1, h2, h3, h4, h5 => by
    rw [drainH_none (hGet_is_none (by simpa using h4))]
    exact ⟨by simp, by simp, rfl, rfl⟩
  | j + 1, n, h, h0, h1, h2, h3, h4, h5 => by
    have hm := h3 (h.v + 1) (by omega) (by omega)
    obtain ⟨l, hl⟩ := hGet_some hm
    have hl2 : l = insA 97 := h1 _ (hGet_mem hl)
    subst hl2
    rw [drainH_some hl, app_insA _ _ (by show h.tx.length + 1 ≤ _; omega), if_pos rfl]
    have hd := hDel_len h2 hm
    have hv : ({ h with held := hDel h.held (h.v + 1), hist := h.hist ++ [(97 :: h.tx, [⟨0, 0, [97]⟩])] } : Hs).v = h.v + 1 := by
      show h.first + ((h.hist ++ [_]).length : Int) - 1 = h.first + h.hist.length - 1 + 1
      rw [List.length_append, List.length_singleton]; omega
    have ht : ({ h with held := hDel h.held (h.v + 1), hist := h.hist ++ [(97 :: h.tx, [⟨0, 0, [97]⟩])] } : Hs).tx = 97 :: h.tx := by
      show (match (h.hist ++ [_]).getLast? with | some p => p.1 | none => []) = _
      rw [List.getLast?_append]; rfl
    have := drain_run j (n := n + 1) (h := { h with held := hDel h.held (h.v + 1), hist := h.hist ++ [(97 :: h.tx, [⟨0, 0, [97]⟩])] }) (by simp) (fun p hp => h1 p (hDel_mem.1 hp).1) (h2.sublist (List.filter_sublist.map _)) (fun m hm1 hm2 => by
        rw [hv] at hm1 hm2
        obtain ⟨p, hp, e⟩ := h3 m (by omega) (by omega)
        exact ⟨p, hDel_mem.2 ⟨hp, by omega⟩, e⟩) (fun p hp => by rw [hv]; have := h4 p (hDel_mem.1 hp).1; omega) (by rw [ht, List.length_cons]; omega)
    obtain ⟨g1, g2, g3, g4⟩ := this
    show (drainH (n + 1) { h with held := hDel h.held (h.v + 1), hist := h.hist ++ [(97 :: h.tx, [⟨0, 0, [97]⟩])] }).1 = _ ∧ (drainH (n + 1) { h with held := hDel h.held (h.v + 1), hist := h.hist ++ [(97 :: h.tx, [⟨0, 0, [97]⟩])] }).2.v = _ ∧ (drainH (n + 1) { h with held := hDel h.held (h.v + 1), hist := h.hist ++ [(97 :: h.tx, [⟨0, 0, [97]⟩])] }).2.tx.length = _ ∧ (drainH (n + 1) { h with held := hDel h.held (h.v + 1), hist := h.hist ++ [(97 :: h.tx, [⟨0, 0, [97]⟩])] }).2.held.length + (j + 1) = _
    rw [hv] at g2
    rw [ht, List.length_cons] at g3
    generalize drainH (n + 1) { h with held := hDel h.held (h.v + 1), hist := h.hist ++ [(97 :: h.tx, [⟨0, 0, [97]⟩])] } = D at *
    have g5 : D.2.held.length + j = (hDel h.held (h.v + 1)).length := g4
    refine ⟨by omega, by omega, by omega, ?_⟩
    show (D.2.held.length : Nat) + (j + 1) = _
    have g6 : (hDel h.held (h.v + 1)).length + 1 = h.held.length := hd
    clear g4 hd
    omega
/-- where a sorted list of numbers ceases to be 2, 3, .. -/
theorem gap_of {ks : List Int} {j : Nat} (hn : ks.Nodup) (h2 : ∀ x, x ∈ ks → 2 ≤ x) (hp : ∀ i : Nat, i < j → (srt ks)[i]? = some ((i : Int) + 2)) (he : (srt ks)[j]? ≠ some ((j : Int) + 2)) :
    (∀ m : Int, 1 < m → m ≤ 1 + j → m ∈ ks) ∧ ∀ x, x ∈ ks → x ≠ 1 + j + 1 := by
  have hpm := srt_perm ks
  have hst := List.pairwise_iff_getElem.1 (srt_sorted ks)
  have hnd := List.pairwise_iff_getElem.1 (hpm.nodup_iff.2 hn)
  refine ⟨fun m h1 h3 => ?_, fun x hx e => ?_⟩
  · have h4 := hp (m - 2).toNat (by omega)
    have h5 := List.mem_of_getElem? h4
    rw [show (((m - 2).toNat : Nat) : Int) + 2 = m from by omega] at h5
    exact hpm.mem_iff.1 h5
  · obtain ⟨q, hq, hqe⟩ := List.getElem_of_mem (hpm.mem_iff.2 hx)
    have hq2 : (srt ks)[q]? = some x := by rw [List.getElem?_eq_getElem hq, hqe]
    rcases Nat.lt_trichotomy q j with h | h | h
    · have := hp q h; rw [hq2] at this; have := Option.some.inj this; omega
    · subst h; rw [hq2] at he; exact he (by rw [e]; congr 1; omega)
    · have hj : j < (srt ks).length := by omega
      have h4 := hst j q hj hq h
      rw [List.getElem?_eq_getElem hj] at he
      have h5 : (srt ks)[j] ≠ (j : Int) + 2 := fun e2 => he (by rw [e2])
      have h6 := h2 _ (hpm.mem_iff.1 (List.getElem_mem hj))
      have h7 := hp ((srt ks)[j] - 2).toNat (by omega)
      have h8 : ((srt ks)[j] - 2).toNat < j := by omega
      rw [List.getElem?_eq_getElem (by omega)] at h7
      have h9 := Option.some.inj h7
      exact hnd _ j (by omega) hj h8 (by omega)
theorem HdI.recv_one {n : Int} {dn : Bool} {k j : Nat} {h : Hs} (r : HdI n dn k h) (hn : n ≤ 20) (hnd : (h.held.map Prod.fst).Nodup) (hf : h.held.length ≤ 16) (hj : j ≤ h.held.length)
    (g1 : ∀ m : Int, 1 < m → m ≤ 1 + j → m ∈ h.held.map Prod.fst) (g2 : ∀ x, x ∈ h.held.map Prod.fst → x ≠ 1 + (j : Int) + 1) :
    (recvH h 1 (insA 98)).1 = (1 + (j : Int), 0) ∧ (recvH h 1 (insA 98)).2.v = 1 + j ∧ (recvH h 1 (insA 98)).2.tx.length = 1 + j ∧ (recvH h 1 (insA 98)).2.held.length + j = h.held.length := by
  have ht : h.tx = [] := by unfold Hs.tx; rw [r.hist]; rfl
  have hg : hGet h.held 1 = none := hGet_is_none fun p hp => by have := (r.all p hp).2.1; omega
  have e : recvH h 1 (insA 98) = (((drainH 1 { h with hist := h.hist ++ [(98 :: h.tx, [⟨0, 0, [98]⟩])] }).1, 0), (drainH 1 { h with hist := h.hist ++ [(98 :: h.tx, [⟨0, 0, [98]⟩])] }).2) := by
    unfold recvH
    rw [r.v, if_neg (by omega), if_neg (by decide), if_neg (by rw [hg]; simp), if_neg (by omega), app_insA h 98 (by rw [ht]; decide), if_neg (by simp)]
  have hv : ({ h with hist := h.hist ++ [(98 :: h.tx, [⟨0, 0, [98]⟩])] } : Hs).v = 1 := by
    unfold Hs.v
    show h.first + ((h.hist ++ [_]).length : Int) - 1 = _
    rw [r.first, r.hist]; rfl
  have htx : ({ h with hist := h.hist ++ [(98 :: h.tx, [⟨0, 0, [98]⟩])] } : Hs).tx = [98] := by
    show (match (h.hist ++ [_]).getLast? with | some p => p.1 | none => []) = _
    rw [List.getLast?_append, ht]; rfl
  have := drain_run j (n := 1) (h := { h with hist := h.hist ++ [(98 :: h.tx, [⟨0, 0, [98]⟩])] }) (by simp) (fun p hp => (r.all p hp).1) hnd (fun m h1 h2 => by
    rw [hv] at h1 h2
    obtain ⟨p, hp, e⟩ := List.mem_map.1 (g1 m h1 h2)
    exact ⟨p, hp, e⟩) (fun p hp => by rw [hv]; exact g2 _ (List.mem_map.2 ⟨p, hp, rfl⟩)) (by rw [htx]; show 1 + j ≤ 4096; omega)
  rw [hv, htx] at this
  rw [e]
  exact ⟨by rw [this.1], this.2.1, this.2.2.1, this.2.2.2⟩
end Go.GL

namespace Go.GL
set_option linter.unusedVariables false
structure KdX where
  k : Nat
  d : Dp
structure KtX where
  k : Nat
  n : Int
  d : Dp
/-- what a change is like that can be received -/
def HeOk (r : HeR) : Prop := r.l.length ≤ 1000 ∧ txsP r.l ≤ 100100 ∧ I64 r.k
def runH (h : Hs) (l : List HeR) : Hs := l.foldl (fun h r => (recvH h r.k r.l).2) h
theorem runH_step {h : Hs} {l : List HeR} {k : Nat} (hk : k < l.length) : runH h (l.take (k + 1)) = (recvH (runH h (l.take k)) l[k].k l[k].l).2 := by
  rw [List.take_succ_eq_append_getElem hk]; unfold runH; rw [List.foldl_append]; rfl
theorem app_v {h : Hs} {l : List PE} (e : (appH h l).1 = 0) : (appH h l).2.v = h.v + 1 ∧ (appH h l).2.first = h.first := by
  unfold appH at e ⊢
  split at e
  · rename_i h1; exact absurd e h1
  · rename_i h1
    rw [if_neg h1]
    unfold becH at e ⊢
    split at e
    · rename_i h2; exact absurd e h2
    · rename_i h2
      split at e
      · exact absurd (show (4 : Int) = 0 from e) (by decide)
      · rename_i h3
        rw [if_neg h2, if_neg h3]
        exact ⟨(tx_of h _ _).2, rfl⟩
theorem ChOk.all : ∀ {cs : List Cg} {h : Hs}, ChOk h cs → ∀ c, c ∈ cs → c.2.length ≤ 64 ∧ txsP c.2 ≤ 100000 ∧ h.v < c.1 ∧ c.1 ≤ h.v + cs.length
  | [], _, _, c, hc => absurd hc (by simp)
  | d :: cs, h, ⟨⟨h1, h2, h3, h4⟩, h5⟩, c, hc => by
    have hv := (app_v h4).1
    rcases List.mem_cons.1 hc with rfl | hc
    · exact ⟨h2, h3, by omega, by rw [List.length_cons]; omega⟩
    · obtain ⟨g1, g2, g3, g4⟩ := ChOk.all h5 c hc
      exact ⟨g1, g2, by omega, by rw [List.length_cons]; omega⟩
theorem ChOk.he {t : List UInt8} {rows : List HeR} (h : ChOk ⟨0, [(t, [])], []⟩ (rows.map HeR.p)) (hl : rows.length ≤ 8) : ∀ r, r ∈ rows → HeOk r := fun r hr => by
  obtain ⟨h1, h2, h3, h4⟩ := ChOk.all h r.p (List.mem_map.2 ⟨r, hr, rfl⟩)
  have h1 : r.l.length ≤ 64 := h1
  have h2 : txsP r.l ≤ 100000 := h2
  have h3 : (0 : Int) + 1 - 1 < r.k := h3
  rw [List.length_map] at h4
  have h4 : r.k ≤ (0 : Int) + 1 - 1 + (rows.length : Int) := h4
  exact ⟨by omega, by omega, by omega, by omega⟩
/-- the states of a chain -/
theorem ChOk.at : ∀ {cs : List Cg} {h : Hs} {j : Nat}, ChOk h cs → (hj : j < cs.length) → cs[j].1 = (endH h (cs.take j)).v + 1 ∧ (endH h (cs.take j)).v = h.v + j ∧ (appH (endH h (cs.take j)) cs[j].2).1 = 0 ∧ endH h (cs.take (j + 1)) = (appH (endH h (cs.take j)) cs[j].2).2
  | d :: cs, h, 0, ⟨⟨h1, h2, h3, h4⟩, h5⟩, _ => ⟨h1, by show h.v = h.v + ((0 : Nat) : Int); omega, h4, rfl⟩
  | d :: cs, h, j + 1, ⟨⟨h1, h2, h3, h4⟩, h5⟩, hj => by
    obtain ⟨g1, g2, g3, g4⟩ := ChOk.at (j := j) h5 (by simpa using hj)
    have hv := (app_v h4).1
    exact ⟨g1, by show (endH (appH h d.2).2 (cs.take j)).v = _; rw [g2, hv]; omega, g3, g4⟩
theorem ChOk.endv {cs : List Cg} {h : Hs} (hc : ChOk h cs) : (endH h cs).v = h.v + cs.length := by
  induction cs generalizing h with
  | nil => show h.v = h.v + ((0 : Nat) : Int); omega
  | cons d cs ih =>
    obtain ⟨⟨h1, h2, h3, h4⟩, h5⟩ := hc
    show (endH (appH h d.2).2 cs).v = _
    rw [ih h5, (app_v h4).1, List.length_cons]; omega
/-- held changes do not matter to what is applied -/
theorem becH_hist (h : Hs) (l : List Ed) (hd : Hd) : becH { h with held := hd } l = ((becH h l).1, { (becH h l).2 with held := hd }) := by
  unfold becH
  have e : ({ h with held := hd } : Hs).tx = h.tx := rfl
  rw [e]
  repeat' split
  all_goals rfl
theorem appH_hist (h : Hs) (l : List PE) (hd : Hd) : appH { h with held := hd } l = ((appH h l).1, { (appH h l).2 with held := hd }) := by
  unfold appH
  have e : ({ h with held := hd } : Hs).tx = h.tx := rfl
  rw [e]
  split
  · rfl
  · exact becH_hist _ _ _
/-- the state when the first j of the chain are applied and others are held -/
structure OrI (h0 : Hs) (cs : List Cg) (j : Nat) (h : Hs) : Prop where
  jl : j ≤ cs.length
  eq : h = { endH h0 (cs.take j) with held := h.held }
  sub : ∀ p, p ∈ h.held → p ∈ cs ∧ h0.v + j < p.1
  nd : (h.held.map Prod.fst).Nodup
theorem OrI.v {h0 : Hs} {cs : List Cg} {j : Nat} {h : Hs} (hc : ChOk h0 cs) (r : OrI h0 cs j h) : h.v = h0.v + j := by
  rw [r.eq]
  show (endH h0 (cs.take j)).v = _
  rcases Nat.lt_or_ge j cs.length with hj | hj
  · exact (hc.at hj).2.1
  · have : j = cs.length := by have := r.jl; omega
    subst this
    rw [List.take_length, hc.endv]
theorem ChOk.mem_at {h0 : Hs} {cs : List Cg} (hc : ChOk h0 cs) {c : Cg} (hm : c ∈ cs) {j : Nat} (hv : c.1 = h0.v + j + 1) : ∃ hj : j < cs.length, cs[j] = c := by
  obtain ⟨i, hi, rfl⟩ := List.getElem_of_mem hm
  obtain ⟨g1, g2, _⟩ := hc.at hi
  have : i = j := by omega
  subst this
  exact ⟨hi, rfl⟩
/-- the next one is applied -/
theorem OrI.app {h0 : Hs} {cs : List Cg} {j : Nat} {h : Hs} (hc : ChOk h0 cs) (r : OrI h0 cs j h) (hj : j < cs.length) (hd : Hd) (hsub : ∀ p, p ∈ hd → p ∈ h.held ∧ p.1 ≠ h0.v + j + 1) (hn : (hd.map Prod.fst).Nodup) :
    (appH { h with held := hd } cs[j].2).1 = 0 ∧ OrI h0 cs (j + 1) (appH { h with held := hd } cs[j].2).2 ∧ (appH { h with held := hd } cs[j].2).2.held = hd := by
  obtain ⟨g1, g2, g3, g4⟩ := hc.at hj
  have e : ({ h with held := hd } : Hs) = { endH h0 (cs.take j) with held := hd } := by rw [r.eq]
  rw [e, appH_hist]
  refine ⟨g3, ⟨hj, by rw [g4], fun p hp => ?_, hn⟩, rfl⟩
  have h1 := hsub p hp
  have h2 := r.sub p h1.1
  exact ⟨h2.1, by omega⟩
theorem OrI.drain {h0 : Hs} {cs : List Cg} (hc : ChOk h0 cs) : ∀ (m : Nat) {j : Nat} {n : Int} {h : Hs}, h.held.length ≤ m → OrI h0 cs j h → ∃ j', OrI h0 cs j' (drainH n h).2 ∧ (drainH n h).1 = n + j' - j ∧ (∀ p, p ∈ (drainH n h).2.held → p.1 ≠ h0.v + j' + 1) ∧ (∀ p, p ∈ h.held → p.1 ≤ h0.v + j' ∨ p ∈ (drainH n h).2.held) ∧ j ≤ j'
  | m, j, n, h, hm, r => by
    have hv := r.v hc
    cases hg : hGet h.held (h.v + 1) with
    | none =>
      rw [drainH_none hg]
      exact ⟨j, r, by show n = _; omega, fun p hp => by have := hGet_none hg p hp; omega, fun p hp => .inr hp, Nat.le_refl _⟩
    | some l =>
      have hmem := hGet_mem hg
      obtain ⟨s1, s2⟩ := r.sub _ hmem
      obtain ⟨hj, he⟩ := hc.mem_at s1 (j := j) (by show h.v + 1 = _; omega)
      have hdel := hDel_lt hg
      have a := r.app hc hj (hDel h.held (h.v + 1)) (fun p hp => by have := hDel_mem.1 hp; exact ⟨this.1, by omega⟩) (r.nd.sublist (List.filter_sublist.map _))
      rw [he] at a
      rw [drainH_some hg, if_pos a.1]
      cases m with
      | zero => omega
      | succ m =>
        obtain ⟨j', b1, b2, b3, b4, b5⟩ := OrI.drain hc m (j := j + 1) (n := n + 1) (by rw [a.2.2]; omega) a.2.1
        refine ⟨j', b1, by rw [b2]; omega, b3, fun p hp => ?_, by omega⟩
        by_cases e : p.1 = h.v + 1
        · exact .inl (by omega)
        · exact b4 p (by rw [a.2.2]; exact hDel_mem.2 ⟨hp, e⟩)
/-- how many distinct numbers there are in a stretch -/
theorem nodup_few {l : List Int} {a : Int} {n : Nat} (hn : l.Nodup) (h : ∀ x, x ∈ l → a < x ∧ x ≤ a + n) : l.length ≤ n := by
  have h2 : l ⊆ (List.range n).map (fun i : Nat => a + 1 + (i : Int)) := fun x hx => by
    have := h x hx
    exact List.mem_map.2 ⟨(x - a - 1).toNat, List.mem_range.2 (by omega), by omega⟩
  have := hn.length_le_of_subset h2
  simpa using this
/-- one change arrives -/
theorem OrI.recv {h0 : Hs} {cs : List Cg} (hc : ChOk h0 cs) (h00 : 0 ≤ h0.v) (hbig : h0.v + cs.length ≤ 1099511627776) (hfew : cs.length ≤ 15) {j : Nat} {h : Hs} (r : OrI h0 cs j h) (hgap : ∀ p, p ∈ h.held → p.1 ≠ h0.v + j + 1) {c : Cg} (hcm : c ∈ cs) :
    ∃ j', OrI h0 cs j' (recvH h c.1 c.2).2 ∧ (recvH h c.1 c.2).1.1 = (j' : Int) - j ∧ ((recvH h c.1 c.2).1.2 = 0 ∨ (recvH h c.1 c.2).1.2 = 8) ∧ (∀ p, p ∈ (recvH h c.1 c.2).2.held → p.1 ≠ h0.v + j' + 1) ∧
      (∀ p, p ∈ h.held ∨ p = c → p.1 ≤ h0.v + j' ∨ p.1 ∈ (recvH h c.1 c.2).2.held.map Prod.fst) ∧ j ≤ j' := by
  have hv := r.v hc
  obtain ⟨a1, a2, a3, a4⟩ := hc.all c hcm
  unfold recvH
  rw [if_neg (by omega), if_neg (by omega)]
  by_cases h1 : c.1 ≤ h.v ∨ (hGet h.held c.1).isSome = true
  · rw [if_pos h1]
    refine ⟨j, r, by show (0 : Int) = _; omega, .inr rfl, hgap, fun p hp => ?_, Nat.le_refl _⟩
    rcases hp with hp | rfl
    · exact .inr (List.mem_map.2 ⟨p, hp, rfl⟩)
    · rcases h1 with h1 | h1
      · exact .inl (by omega)
      · obtain ⟨x, hx⟩ := Option.isSome_iff_exists.1 h1
        exact .inr (List.mem_map.2 ⟨_, hGet_mem hx, rfl⟩)
  · rw [if_neg h1]
    have hn : hGet h.held c.1 = none := by
      cases hg : hGet h.held c.1 with
      | none => rfl
      | some x => exact absurd (.inr (by rw [hg]; rfl)) h1
    by_cases h2 : h.v + 1 < c.1
    · rw [if_pos h2]
      have hlen : h.held.length ≤ cs.length := by
        have := nodup_few (l := h.held.map Prod.fst) (a := h0.v) (n := cs.length) r.nd (fun x hx => by
          obtain ⟨p, hp, rfl⟩ := List.mem_map.1 hx
          have := hc.all p (r.sub p hp).1
          omega)
        simpa using this
      rw [if_neg (by omega)]
      refine ⟨j, ⟨r.jl, by rw [r.eq], fun p hp => ?_, ?_⟩, by show (0 : Int) = _; omega, .inl rfl, fun p hp => ?_, fun p hp => ?_, Nat.le_refl _⟩
      · rcases List.mem_append.1 hp with hp | hp
        · exact r.sub p hp
        · rw [List.mem_singleton.1 hp]; exact ⟨hcm, by show h0.v + j < c.1; omega⟩
      · show ((h.held ++ [c]).map Prod.fst).Nodup
        rw [List.map_append, List.nodup_append]
        refine ⟨r.nd, by simp, fun a ha b hb => ?_⟩
        obtain ⟨p, hp, rfl⟩ := List.mem_map.1 ha
        simp at hb
        subst hb
        exact hGet_none hn p hp
      · rcases List.mem_append.1 hp with hp | hp
        · exact hgap p hp
        · rw [List.mem_singleton.1 hp]; show c.1 ≠ _; omega
      · refine .inr (List.mem_map.2 ⟨p, List.mem_append.2 ?_, rfl⟩)
        rcases hp with hp | rfl
        · exact .inl hp
        · exact .inr (.head _)
    · rw [if_neg h2]
      obtain ⟨hj, he⟩ := hc.mem_at hcm (j := j) (by omega)
      have a := r.app hc hj h.held (fun p hp => ⟨hp, hgap p hp⟩) r.nd
      have e : ({ h with held := h.held } : Hs) = h := rfl
      rw [e, he] at a
      rw [if_neg (by rw [a.1]; simp)]
      obtain ⟨j', b1, b2, b3, b4, b5⟩ := OrI.drain hc _ (n := 1) (Nat.le_refl _) a.2.1
      refine ⟨j', b1, by show (drainH 1 _).1 = _; rw [b2]; omega, .inl rfl, b3, fun p hp => ?_, by omega⟩
      rcases hp with hp | rfl
      · rcases b4 p (by rw [a.2.2]; exact hp) with h | h
        · exact .inl h
        · exact .inr (List.mem_map.2 ⟨p, h, rfl⟩)
      · exact .inl (by omega)
/-- what the walk knows: the changes that have come are applied or held -/
structure OrW (h0 : Hs) (cs come : List Cg) (j : Nat) (h : Hs) : Prop where
  i : OrI h0 cs j h
  gap : ∀ p, p ∈ h.held → p.1 ≠ h0.v + j + 1
  come : ∀ c, c ∈ come → c.1 ≤ h0.v + j ∨ c.1 ∈ h.held.map Prod.fst
theorem OrW.new {h0 : Hs} {cs : List Cg} (hh : h0.held = []) : OrW h0 cs [] 0 h0 := by
  refine ⟨⟨Nat.zero_le _, rfl, fun p hp => ?_, by rw [hh]; exact List.nodup_nil⟩, fun p hp => ?_, fun c hc => absurd hc (by simp)⟩
  · rw [hh] at hp; exact absurd hp (by simp)
  · rw [hh] at hp; exact absurd hp (by simp)
theorem OrW.recv {h0 : Hs} {cs come : List Cg} (hc : ChOk h0 cs) (h00 : 0 ≤ h0.v) (hbig : h0.v + cs.length ≤ 1099511627776) (hfew : cs.length ≤ 15) {j : Nat} {h : Hs} (r : OrW h0 cs come j h) {c : Cg} (hcm : c ∈ cs) :
    ∃ j', OrW h0 cs (come ++ [c]) j' (recvH h c.1 c.2).2 ∧ (recvH h c.1 c.2).1.1 = (j' : Int) - j ∧ ((recvH h c.1 c.2).1.2 = 0 ∨ (recvH h c.1 c.2).1.2 = 8) := by
  obtain ⟨j', g1, g2, g3, g4, g5, g6⟩ := r.i.recv hc h00 hbig hfew r.gap hcm
  refine ⟨j', ⟨g1, g4, fun x hx => ?_⟩, g2, g3⟩
  rcases List.mem_append.1 hx with hx | hx
  · rcases r.come x hx with h | h
    · exact .inl (by omega)
    · obtain ⟨p, hp, e⟩ := List.mem_map.1 h
      have := g5 p (.inl hp)
      rw [e] at this
      exact this
  · exact g5 x (.inr (List.mem_singleton.1 hx))
/-- when all have come, all are applied -/
theorem OrW.full {h0 : Hs} {cs come : List Cg} (hc : ChOk h0 cs) {j : Nat} {h : Hs} (r : OrW h0 cs come j h) (hall : ∀ c, c ∈ cs → c ∈ come) : j = cs.length ∧ h.held = [] ∧ h = { endH h0 cs with held := [] } := by
  have hj : j = cs.length := by
    rcases Nat.lt_or_ge j cs.length with hj | hj
    · obtain ⟨g1, g2, _⟩ := hc.at hj
      rcases r.come cs[j] (hall _ (List.getElem_mem hj)) with h1 | h1
      · omega
      · obtain ⟨p, hp, e⟩ := List.mem_map.1 h1
        exact absurd (by omega) (r.gap p hp)
    · have := r.i.jl; omega
  have hh : h.held = [] := List.eq_nil_iff_forall_not_mem.2 fun p hp => by
    obtain ⟨g1, g2⟩ := r.i.sub p hp
    have := hc.all p g1
    omega
  refine ⟨hj, hh, ?_⟩
  rw [r.i.eq, hh, hj, List.take_length]
/-- changes that come in their order -/
theorem OrW.next {h0 : Hs} {cs : List Cg} (hc : ChOk h0 cs) (h00 : 0 ≤ h0.v) (hbig : h0.v + cs.length ≤ 1099511627776) (hh : h0.held = []) {j : Nat} (hj : j < cs.length) :
    recvH (endH h0 (cs.take j)) cs[j].1 cs[j].2 = ((1, 0), endH h0 (cs.take (j + 1))) := by
  obtain ⟨g1, g2, g3, g4⟩ := hc.at hj
  obtain ⟨a1, a2, a3, a4⟩ := hc.all _ (List.getElem_mem hj)
  have hheld : ∀ (l : List Cg) (h : Hs), h.held = [] → (endH h l).held = [] := by
    intro l
    induction l with
    | nil => intro h e; exact e
    | cons d l ih => intro h e; exact ih _ (by rw [appH_held, e])
  have e0 := hheld (cs.take j) h0 hh
  have e1 := hheld (cs.take (j + 1)) h0 hh
  unfold recvH
  rw [if_neg (by omega), if_neg (by omega), if_neg (by rw [e0, g1]; simp [hGet]; omega), if_neg (by omega), if_neg (by rw [g3]; simp), ← g4, drainH_none (by rw [e1]; rfl)]
theorem diffE_len (a b : List UInt8) : (diffE a b).length ≤ 1 := by
  unfold diffE; split <;> simp
theorem sinceGo_len (t last : List UInt8) : ∀ (ps : List (List UInt8 × List Ed)) (x : List Ed), x.length ≤ 64 → (sinceGo t last ps x).length ≤ 64
  | [], x, h => h
  | p :: ps, x, h => by
    rw [sinceGo]
    split
    · have := diffE_len t last; omega
    · rename_i h1
      exact sinceGo_len t last ps _ (composeE_txs (Decidable.not_not.1 h1)).2
theorem sinceH_len (h : Hs) (v : Int) : (sinceH h v).1.length ≤ 64 := by
  unfold sinceH
  split
  · exact sinceGo_len _ _ _ _ (Nat.zero_le _)
  · exact Nat.zero_le _
end Go.GL

namespace Go.GL
set_option linter.unusedVariables false
/-- a change of a chain -/
def HeS (r : HeR) : Prop := r.l.length ≤ 64 ∧ txsP r.l ≤ 100000 ∧ -1000 ≤ r.k ∧ r.k ≤ 1000
theorem HeS.ok {r : HeR} (h : HeS r) : HeOk r := ⟨by have := h.1; omega, by have := h.2.1; omega, by have := h.2.2.1; omega, by have := h.2.2.2; omega⟩
theorem ChOk.hs {t : List UInt8} {rows : List HeR} (h : ChOk ⟨0, [(t, [])], []⟩ (rows.map HeR.p)) (hl : rows.length ≤ 8) : ∀ r, r ∈ rows → HeS r := fun r hr => by
  obtain ⟨h1, h2, h3, h4⟩ := ChOk.all h r.p (List.mem_map.2 ⟨r, hr, rfl⟩)
  have h1 : r.l.length ≤ 64 := h1
  have h2 : txsP r.l ≤ 100000 := h2
  have h3 : (0 : Int) + 1 - 1 < r.k := h3
  rw [List.length_map] at h4
  have h4 : r.k ≤ (0 : Int) + 1 - 1 + (rows.length : Int) := h4
  exact ⟨by omega, by omega, by omega, by omega⟩
theorem drainH_v : ∀ (m : Nat) {n : Int} {h : Hs}, h.held.length ≤ m → (drainH n h).2.v - h.v = (drainH n h).1 - n
  | m, n, h, hm => by
    cases hg : hGet h.held (h.v + 1) with
    | none => rw [drainH_none hg]; show h.v - h.v = n - n; omega
    | some l =>
      rw [drainH_some hg]
      have hdel := hDel_lt hg
      have e0 : ({ h with held := hDel h.held (h.v + 1) } : Hs).v = h.v := rfl
      split
      · rename_i h1
        cases m with
        | zero => omega
        | succ m =>
          have := drainH_v m (n := n + 1) (h := (appH { h with held := hDel h.held (h.v + 1) } l).2) (by rw [appH_held]; show (hDel h.held (h.v + 1)).length ≤ m; omega)
          have hv := (app_v h1).1
          rw [e0] at hv
          omega
      · show h.v - h.v = n - n; omega
theorem recvH_bad {h : Hs} {v : Int} {l : List PE} (e : (recvH h v l).1.2 ≠ 0) : (recvH h v l).1.1 = 0 ∧ (recvH h v l).2 = h := by
  unfold recvH at e ⊢
  repeat' split
  all_goals first
    | exact ⟨rfl, rfl⟩
    | skip
  · rename_i h1 h2 h3 h4 h5
    rw [if_neg h1, if_neg h2, if_neg h3, if_pos h4, if_neg h5] at e
    exact absurd rfl e
  · rename_i h1 h2 h3 h4 h5
    rw [if_neg h1, if_neg h2, if_neg h3, if_neg h4, if_neg h5] at e
    exact absurd rfl e
theorem recvH_good {h : Hs} {v : Int} {l : List PE} (e : (recvH h v l).1.2 = 0) : (recvH h v l).2.v = h.v + (recvH h v l).1.1 := by
  unfold recvH at e ⊢
  repeat' split
  all_goals try (show h.v = h.v + 0; omega)
  · rename_i h1 h2 h3 h4 h5
    have ha : (appH h l).1 = 0 := Decidable.not_not.1 h5
    have h6 := drainH_v _ (n := 1) (h := (appH h l).2) (Nat.le_refl _)
    have h7 := (app_v ha).1
    show (drainH 1 (appH h l).2).2.v = h.v + (drainH 1 (appH h l).2).1
    omega
theorem editH_bad {h : Hs} {l : List Ed} (e : (editH h l).1.2 ≠ 0) : (editH h l).1.1 = 0 ∧ (editH h l).2 = h := by
  unfold editH at e ⊢
  repeat' split
  all_goals first
    | exact ⟨rfl, rfl⟩
    | skip
  · rename_i h1 h2 h3
    rw [if_neg h1, if_neg h2, if_neg h3] at e
    exact absurd rfl e
theorem editH_good {h : Hs} {l : List Ed} (e : (editH h l).1.2 = 0) : (applyE h.tx l).2 = 0 ∧ (editH h l).2.tx = (applyE h.tx l).1 ∧ (editH h l).1.1 = h.v + 1 ∧ (editH h l).2.v = h.v + 1 := by
  unfold editH at e ⊢
  split at e
  · exact absurd (show (23 : Int) = 0 from e) (by decide)
  · rename_i h1
    rw [if_neg h1]
    split at e
    · exact absurd (show (5 : Int) = 0 from e) (by decide)
    · rename_i h2
      rw [if_neg h2]
      split at e
      · rename_i h3; exact absurd e h3
      · rename_i h3
        rw [if_neg h3]
        have hb : (becH h l).1 = 0 := Decidable.not_not.1 h3
        unfold becH at hb ⊢
        split at hb
        · rename_i h4; exact absurd hb h4
        · rename_i h4
          split at hb
          · exact absurd (show (4 : Int) = 0 from hb) (by decide)
          · rename_i h5
            rw [if_neg h4, if_neg h5]
            have hs : soundE h.tx.length l = 0 := Decidable.not_not.1 h4
            have := tx_of h (applyGo h.tx 0 l) l
            unfold applyE
            rw [if_pos hs]
            exact ⟨rfl, this.1, this.2, this.2⟩
theorem HeS.spoilV {r : HeR} (h : HeS r) {k : Int} (hk : I64 k) : HeOk { r with k := k } := ⟨by have := h.1; show r.l.length ≤ _; omega, by have := h.2.1; show txsP r.l ≤ _; omega, hk⟩
theorem txsP_append (a b : List PE) : txsP (a ++ b) = txsP a + txsP b := by unfold txsP; rw [List.map_append, List.sum_append]
theorem HeS.spoilL {r : HeR} (h : HeS r) {oa : Option Addr} {c : Nat} (x : PE) (hx : x.x.length ≤ 100) : HeOk ⟨r.k, r.l ++ [x], oa, c⟩ := by
  have h1 : txsP [x] = x.x.length := by simp [txsP]
  obtain ⟨a1, a2, a3, a4⟩ := h
  refine ⟨?_, ?_, by show _ ≤ r.k; omega, by show r.k ≤ _; omega⟩
  · show (r.l ++ [x]).length ≤ _
    rw [List.length_append, List.length_singleton]; omega
  · show txsP (r.l ++ [x]) ≤ _
    rw [txsP_append]; omega
theorem set_all {p : HeR → Prop} {l : List HeR} {i : Nat} {r : HeR} (h : ∀ x, x ∈ l → p x) (hr : p r) : ∀ x, x ∈ l.set i r → p x := fun x hx => by
  rcases List.mem_or_eq_of_mem_set hx with h1 | h1
  · exact h x h1
  · exact h1 ▸ hr
theorem heC_split (l : List HeR) (k : Nat) (h : k < l.length) : heC l = (heC l).take (k * 2) ++ l[k].cs ++ (heC l).drop (k * 2 + 2) := by
  conv => lhs; rw [← List.set_getElem_self h]
  exact heC_set h _
theorem heC_setK (l : List HeR) (k : Nat) (h : k < l.length) (v : Int) : (heC l).take (0 + ((k : Nat) : Int).toNat * 2 + 0) ++ [I v] ++ (heC l).drop (0 + ((k : Nat) : Int).toNat * 2 + 0 + ([I v] : List Value).length) = heC (l.set k { l[k] with k := v }) := by
  have hl : ((heC l).take (k * 2)).length = k * 2 := by rw [List.length_take, heC_length]; omega
  rw [heC_set h, Nat.zero_add, Int.toNat_natCast]
  conv => lhs; rw [heC_split l k h]
  generalize (heC l).take (k * 2) = A at *
  generalize (heC l).drop (k * 2 + 2) = B
  rw [← hl]
  simp [List.drop_append, HeR.cs]
theorem heC_setL (l : List HeR) (k : Nat) (h : k < l.length) (pl : List PE) (oa : Option Addr) (c : Nat) : (heC l).take (0 + ((k : Nat) : Int).toNat * 2 + 1) ++ [.slice oa pl.length c] ++ (heC l).drop (0 + ((k : Nat) : Int).toNat * 2 + 1 + ([.slice oa pl.length c] : List Value).length) = heC (l.set k ⟨l[k].k, pl, oa, c⟩) := by
  have hl : ((heC l).take (k * 2)).length = k * 2 := by rw [List.length_take, heC_length]; omega
  rw [heC_set h, Nat.zero_add, Int.toNat_natCast]
  conv => lhs; rw [heC_split l k h]
  generalize (heC l).take (k * 2) = A at *
  generalize (heC l).drop (k * 2 + 2) = B
  rw [← hl]
  simp [List.take_append, List.drop_append, HeR.cs]
  rw [List.take_of_length_le (l := A) (by omega), List.drop_of_length_le (l := A) (by omega), show A.length + 1 + 1 - A.length = 2 from by omega]; rfl
theorem HeF.set {l : List HeR} {r : HeR} {i : Nat} {w : World} {K : List Nat} (h : (HeF l).p w K) (hr : ArrAt w K r.oa (peC r.l)) : (HeF (l.set i r)).p w K := set_all (p := fun h => ArrAt w K h.oa (peC h.l)) h hr
theorem i64_div {x : Int} (h : I64 x) : I64 (x.tdiv 3) := by
  obtain ⟨h0, h1⟩ := h
  rcases Int.le_total 0 x with hx | hx
  · rw [Int.tdiv_eq_ediv_of_nonneg hx]; exact ⟨by omega, by omega⟩
  · have e : x.tdiv 3 = -((-x).tdiv 3) := by rw [Int.neg_tdiv, Int.neg_neg]
    rw [e, Int.tdiv_eq_ediv_of_nonneg (by omega)]; exact ⟨by omega, by omega⟩
structure RdH where
  k : Nat
  d : Dp
  h : Hs
structure FwX where
  k : Nat
  es : List Ed
  oa : Option Addr
  c : Nat
end Go.GL

namespace Go.GL
set_option linter.unusedVariables false
abbrev flE (s : List UInt8) : Ed → Bool := fun x => !decide (x.x = cutI s x.f x.t)
def posP (ps : List Pa) : List Pa := ps.filter fun p => decide (0 < p.s)
theorem kept_whole {size : Int} : ∀ {x : List Ed} {q sh : Int}, 0 ≤ q → q ≤ size → sound1 size q x = 0 → ∀ p, p ∈ keptL size q sh x → 0 ≤ p.o ∧ p.o + p.s ≤ size
  | [], q, sh, h0, h1, _, p, hp => by rw [List.mem_singleton.1 hp]; exact ⟨h0, by show q + (size - q) ≤ size; omega⟩
  | e :: x, q, sh, h0, h1, hs, p, hp => by
    obtain ⟨g1, g2, g3, g4, g5⟩ := sound1_cons hs
    rcases List.mem_cons.1 hp with rfl | hp
    · exact ⟨h0, by show q + (e.f - q) ≤ size; omega⟩
    · exact kept_whole (by omega) (by omega) g5 p hp
theorem both_whole {size : Int} {qs : List Pa} (h : ∀ p, p ∈ qs → 0 ≤ p.o ∧ p.o + p.s ≤ size) : bothL [⟨0, 0, size⟩] qs = posP qs := by
  unfold bothL
  rw [List.flatMap_cons, List.flatMap_nil, List.append_nil]
  unfold bothIn posP
  induction qs with
  | nil => rfl
  | cons q qs ih =>
    obtain ⟨h1, h2⟩ := h q (.head _)
    rw [List.filterMap_cons, List.filter_cons, ih fun p hp => h p (.tail _ hp)]
    by_cases h3 : 0 < q.s
    · have e : pick2 ⟨0, 0, size⟩ q = some q := by
        unfold pick2
        obtain ⟨o, n, s⟩ := q
        dsimp only at *
        have e1 : max (0 : Int) o = o := by omega
        have e2 : min (0 + size) (o + s) = o + s := by omega
        rw [e1, e2, if_pos (by omega)]
        congr 2 <;> omega
      rw [e, if_pos (by simpa using h3)]
    · have e : pick2 ⟨0, 0, size⟩ q = none := by
        unfold pick2
        rw [if_neg (by dsimp only; omega)]
      rw [e, if_neg (by simpa using h3)]
theorem cut_id (s u : List UInt8) {a : Nat} {x : List UInt8} (h : x = cutI u a a) (b : Nat) : flE s ⟨(b : Nat), (b : Nat), x⟩ = false := by
  subst h
  have e : ∀ (l : List UInt8) (a : Nat), cutI l (a : Int) (a : Int) = [] := fun l a => by unfold cutI; rw [List.drop_of_length_le (by rw [List.length_take]; omega)]
  unfold flE
  simp [e]
theorem cut_nat (u : List UInt8) (a b : Nat) : cutI u (a : Int) (b : Int) = (u.drop a).take (b - a) := by
  unfold cutI; rw [Int.toNat_natCast, Int.toNat_natCast, List.drop_take]
theorem filter_snoc {α : Type} {p : α → Bool} {A B : List α} (x : α) (h : A.filter p = B.filter p) : (A ++ [x]).filter p = (B ++ [x]).filter p := by rw [List.filter_append, List.filter_append, h]
theorem go_norm {s u : List UInt8} : ∀ (x : List Ed) (q m : Nat) (acc J : List Ed) (o n : Nat), q ≤ s.length → sound1 s.length q x = 0 → u.drop m = applyGo s q x → m ≤ u.length → o ≤ q → n ≤ m →
    joinL acc = acc → (∀ y, acc.getLast? = some y → y.t < o) →
    ((J = [] ∧ acc = [] ∧ o = 0 ∧ n = 0 ∧ q = 0 ∧ m = 0) ∨ ∃ A, J = A ++ [⟨o, q, cutI u n m⟩] ∧ A.filter (flE s) = acc.filter (flE s)) →
    (joinL (((posP (keptL s.length q ((m : Int) - q) x)).foldl (gapStep u) (acc, (o : Int), (n : Int))).1 ++ [⟨((posP (keptL s.length q ((m : Int) - q) x)).foldl (gapStep u) (acc, (o : Int), (n : Int))).2.1, s.length, u.drop ((posP (keptL s.length q ((m : Int) - q) x)).foldl (gapStep u) (acc, (o : Int), (n : Int))).2.2.toNat⟩])).filter (flE s) = (x.foldl joinStep J).filter (flE s)
  | [], q, m, acc, J, o, n, hq, hs, hu, hm, ho, hn, hj, hl, hJ => by
    have hul : u.length - m = s.length - q := by have := congrArg List.length hu; rw [List.length_drop, applyGo, List.length_drop] at this; exact this
    have hnew : ∀ x : Ed, x.f = o → joinL (acc ++ [x]) = acc ++ [x] := fun x hx => by rw [joinL_snoc, hj, joinStep_new fun y hy => by have := hl y hy; omega]
    have hfin : (acc ++ [(⟨(o : Int), (q : Int), cutI u n m⟩ : Ed)]).filter (flE s) = J.filter (flE s) := by
      rcases hJ with ⟨h1, h2, h3, h4, h5, h6⟩ | ⟨A, h1, h2⟩
      · subst h1; subst h2; subst h3; subst h4; subst h5; subst h6
        rw [List.nil_append, List.filter_cons, if_neg (by rw [show ((0 : Nat) : Int) = ((0 : Nat) : Int) from rfl, cut_id s u rfl]; simp)]
      · rw [h1]; exact (filter_snoc _ h2).symm
    show _ = J.filter (flE s)
    rw [keptL]
    unfold posP
    rw [List.filter_cons]
    by_cases h : q < s.length
    · rw [if_pos (by simp; omega), List.filter_nil]
      show (joinL ((acc ++ [⟨(o : Int), (q : Int), cutI u n ((q : Int) + ((m : Int) - q))⟩]) ++ [⟨(q : Int) + (s.length - q), s.length, u.drop ((q : Int) + ((m : Int) - q) + (s.length - q)).toNat⟩])).filter _ = _
      have e1 : (q : Int) + ((m : Int) - q) = m := by omega
      have e2 : (q : Int) + ((s.length : Int) - q) = s.length := by omega
      have e3 : u.drop ((m : Int) + ((s.length : Int) - q)).toNat = [] := List.drop_of_length_le (by omega)
      rw [e1, e2, e3, joinL_snoc, hnew _ rfl, joinStep_new fun y hy => by
        rw [List.getLast?_append] at hy
        have := Option.some.inj hy
        rw [← this]
        show (q : Int) ≠ s.length
        omega]
      rw [List.filter_append, List.filter_cons, if_neg (by
        have := cut_id s u (a := 0) (x := []) (by unfold cutI; simp) s.length
        rw [this]; simp), List.filter_nil, List.append_nil]
      exact hfin
    · rw [if_neg (by simp; omega), List.filter_nil]
      show (joinL (acc ++ [⟨(o : Int), s.length, u.drop ((n : Int)).toNat⟩])).filter _ = _
      rw [hnew _ rfl, ← hfin]
      have e1 : q = s.length := by omega
      have e2 : cutI u n m = u.drop n := by rw [cut_nat, List.take_of_length_le (by rw [List.length_drop]; omega)]
      rw [e2, e1, Int.toNat_natCast]
  | e :: x, q, m, acc, J, o, n, hq, hs, hu, hm, ho, hn, hj, hl, hJ => by
    obtain ⟨g1, g2, g3, g4, g5⟩ := sound1_cons hs
    obtain ⟨f, hf⟩ : ∃ f : Nat, e.f = f := ⟨e.f.toNat, by omega⟩
    obtain ⟨t, ht⟩ : ∃ t : Nat, e.t = t := ⟨e.t.toNat, by omega⟩
    rw [applyGo, hf, ht, Int.toNat_natCast, Int.toNat_natCast] at hu
    have hl1 : ((s.take f).drop q).length = f - q := by rw [List.length_drop, List.length_take]; omega
    have hlen := congrArg List.length hu
    rw [List.length_append, List.length_append, hl1, List.length_drop] at hlen
    have hu1 : u.drop (m + (f - q)) = e.x ++ applyGo s t x := by rw [← List.drop_drop, hu, ← hl1, List.drop_left]
    have hu2 : u.drop (m + (f - q) + e.x.length) = applyGo s t x := by rw [← List.drop_drop, hu1, List.drop_left]
    have hcut : cutI u ((m + (f - q) : Nat) : Int) ((m + (f - q) + e.x.length : Nat) : Int) = e.x := by rw [cut_nat, hu1, show m + (f - q) + e.x.length - (m + (f - q)) = e.x.length from by omega, List.take_left]
    have hee : (⟨(f : Int), (t : Int), e.x⟩ : Ed) = e := by rw [← hf, ← ht]
    have hsh : (m : Int) - q + growE e = ((m + (f - q) + e.x.length : Nat) : Int) - (t : Nat) := by unfold growE; omega
    rw [keptL, hf, ht, hsh]
    unfold posP
    rw [List.filter_cons, List.foldl_cons]
    by_cases h : q < f
    · rw [if_pos (by simp; omega), List.foldl_cons]
      have e1 : (q : Int) + ((m : Int) - q) = m := by omega
      have hst : gapStep u (acc, (o : Int), (n : Int)) ⟨(q : Int), (q : Int) + ((m : Int) - q), (f : Int) - q⟩ = (acc ++ [⟨(o : Int), (q : Int), cutI u n m⟩], ((f : Nat) : Int), ((m + (f - q) : Nat) : Int)) := by
        unfold gapStep
        rw [e1]
        have e2 : (q : Int) + ((f : Int) - q) = f := by omega
        have e3 : (m : Int) + ((f : Int) - q) = ((m + (f - q) : Nat) : Int) := by omega
        dsimp only
        rw [e2, e3]
      rw [hst]
      refine go_norm x t (m + (f - q) + e.x.length) _ _ f (m + (f - q)) (by omega) (by rw [← ht]; exact g5) hu2 (by omega) (by omega) (by omega) ?_ ?_ ?_
      · rw [joinL_snoc, hj, joinStep_new fun y hy => by have := hl y hy; show y.t ≠ (o : Int); omega]
      · intro y hy
        rw [List.getLast?_append] at hy
        rw [← Option.some.inj hy]
        show (q : Int) < f
        omega
      · rw [hcut, hee]
        rcases hJ with ⟨h1, h2, h3, h4, h5, h6⟩ | ⟨A, h1, h2⟩
        · refine .inr ⟨[], ?_, ?_⟩
          · rw [h1]; rfl
          · subst h2; subst h3; subst h4; subst h5; subst h6
            rw [List.nil_append, List.filter_cons, if_neg (by rw [cut_id s u rfl]; simp)]
        · refine .inr ⟨J, ?_, ?_⟩
          · rw [joinStep_new fun y hy => by
              rw [h1, List.getLast?_append] at hy
              rw [← Option.some.inj hy, hf]
              show (q : Int) ≠ f
              omega]
          · rw [h1]; exact filter_snoc _ h2
    · rw [if_neg (by simp; omega)]
      have hfq : f = q := by omega
      refine go_norm x t (m + (f - q) + e.x.length) acc _ o n (by omega) (by rw [← ht]; exact g5) hu2 (by omega) (by omega) (by omega) hj hl ?_
      have e0 : m + (f - q) = m := by omega
      rw [e0] at hcut ⊢
      rcases hJ with ⟨h1, h2, h3, h4, h5, h6⟩ | ⟨A, h1, h2⟩
      · refine .inr ⟨[], ?_, by rw [h2]⟩
        subst h1; subst h3; subst h4; subst h6
        rw [hcut]
        show [e] = [⟨((0 : Nat) : Int), (t : Int), e.x⟩]
        rw [← hee, hfq, h5]
      · refine .inr ⟨A, ?_, h2⟩
        rw [h1]
        unfold joinStep
        rw [List.getLast?_append]
        show (if (q : Int) = e.f then (A ++ [_]).dropLast ++ [⟨(o : Int), e.t, cutI u n m ++ e.x⟩] else _) = _
        rw [if_pos (by omega), List.dropLast_concat, ht]
        have e9 : cutI u n ((m + e.x.length : Nat) : Int) = cutI u n m ++ e.x := by
          rw [cut_nat, cut_nat, show m + e.x.length - n = (m - n) + e.x.length from by omega, List.take_add, List.drop_drop, show n + (m - n) = m from by omega]
          rw [cut_nat, show m + e.x.length - m = e.x.length from by omega] at hcut
          rw [hcut]
        rw [e9]
theorem compose_nil {s : List UInt8} {x : List Ed} (hs : soundE s.length x = 0) : composeL s s (applyGo s 0 x) [] x = normE s x := by
  unfold composeL
  have h1 := soundE_sound1 hs
  have e0 : keptL (s.length : Int) 0 0 [] = [⟨0, 0, s.length⟩] := by simp [keptL]
  have e1 := both_whole (kept_whole (sh := 0) (Int.le_refl 0) (by omega) h1)
  show normE s ((gapSt (applyGo s 0 x) (bothL (keptL s.length 0 0 []) (keptL s.length 0 0 x))).1 ++ [⟨(gapSt (applyGo s 0 x) (bothL (keptL s.length 0 0 []) (keptL s.length 0 0 x))).2.1, s.length, (applyGo s 0 x).drop (gapSt (applyGo s 0 x) (bothL (keptL s.length 0 0 []) (keptL s.length 0 0 x))).2.2.toNat⟩]) = _
  rw [e0, e1]
  have h2 := go_norm (s := s) (u := applyGo s 0 x) x 0 0 [] [] 0 0 (Nat.zero_le _) h1 rfl (Nat.zero_le _) (Nat.le_refl _) (Nat.le_refl _) rfl (fun y hy => by cases hy) (.inl ⟨rfl, rfl, rfl, rfl, rfl, rfl⟩)
  exact h2
theorem normE_len (s : List UInt8) (x : List Ed) : (normE s x).length ≤ x.length := by
  unfold normE
  refine Nat.le_trans (List.length_filter_le _ _) ?_
  have h : ∀ (x : List Ed) (J : List Ed), (x.foldl joinStep J).length ≤ J.length + x.length := by
    intro x
    induction x with
    | nil => intro J; exact Nat.le_refl _
    | cons e x ih =>
      intro J
      rw [List.foldl_cons, List.length_cons]
      refine Nat.le_trans (ih _) ?_
      have : (joinStep J e).length ≤ J.length + 1 := by
        unfold joinStep
        split
        · split
          · rw [List.length_append, List.length_dropLast, List.length_singleton]; omega
          · rw [List.length_append, List.length_singleton]; omega
        · simp
      omega
  have := h x []
  simpa [joinL] using this
theorem compose_one {s : List UInt8} {x : List Ed} (hs : soundE s.length x = 0) : composeE s [] x = (normE s x, 0) := by
  have h64 : x.length ≤ 64 := by
    unfold soundE at hs
    split at hs
    · exact absurd hs (by decide)
    · omega
  have e : applyGo s 0 [] = s := rfl
  unfold composeE
  rw [e, if_pos (by unfold soundE; rw [if_neg (by simp)]; rfl), if_pos hs, compose_nil hs, if_neg (by have := normE_len s x; omega)]
/-- one change, told by positions or by edits -/
theorem pos_one {t : List UInt8} {es : List Ed} (h : EdsOk t es) (ht : t.length ≤ 96) (hp : (posE t es []).2 = true) :
    (posM t (posE t es []).1 = (es, 0)) ∧ recvH ⟨7, [(t, [])], []⟩ 8 (posE t es []).1 = ((1, 0), ⟨7, [(t, []), (applyGo t 0 es, es)], []⟩) ∧ editH ⟨7, [(t, [])], []⟩ es = ((8, 0), ⟨7, [(t, []), (applyGo t 0 es, es)], []⟩) ∧
      sinceH ⟨7, [(t, []), (applyGo t 0 es, es)], []⟩ 7 = (normE t es, 0) ∧ (posE t es []).1.length ≤ 5 ∧ txsP (posE t es []).1 ≤ 1000 := by
  have hlen := h.len
  have h5 := h.1
  obtain ⟨g1, g2, g3, g4⟩ := app_pos (h := ⟨7, [(t, [])], []⟩) h.sound hp (by show ¬ 4096 < (applyGo t 0 es).length; omega)
  have g1 : (posE t es []).1.length = es.length := g1
  have g2 : txsP (posE t es []).1 = txs es := g2
  have g6 := (apply_sum (Nat.zero_le _) (soundE_sound1 h.sound)).2
  have g4 : appH ⟨7, [(t, [])], []⟩ (posE t es []).1 = (0, ⟨7, [(t, []), (applyGo t 0 es, es)], []⟩) := g4
  refine ⟨g3, ?_, ?_, ?_, by omega, by omega⟩
  · unfold recvH
    rw [if_neg (by decide), if_neg (by omega), if_neg (by simp [hGet, Hs.v]), if_neg (by simp [Hs.v]), g4, if_neg (by simp), drainH_none (by rfl)]
  · unfold editH
    have hb : becH ⟨7, [(t, [])], []⟩ es = (0, ⟨7, [(t, []), (applyGo t 0 es, es)], []⟩) := by
      unfold becH
      have e : (⟨7, [(t, [])], []⟩ : Hs).tx = t := rfl
      rw [e, if_neg (by rw [h.sound]; simp), if_neg (by omega)]; rfl
    rw [if_neg (by simp), if_neg (by simp [Hs.v]), hb, if_neg (by simp)]; rfl
  · have e : sinceH ⟨7, [(t, []), (applyGo t 0 es, es)], []⟩ 7 = (sinceGo t (applyGo t 0 es) [(applyGo t 0 es, es)] [], 0) := rfl
    rw [e, sinceGo, compose_one h.sound, if_neg (by simp)]; rfl
end Go.GL

namespace Go.Proofs.Ytkdeopioelocnaa
open Go.GL
set_option linter.unusedVariables false
theorem qy_bv39_0_1 (x0 : Int) (x1 : Option Addr) (x1n x1c : Nat) : BuildV Try.prog 39 [(0, .int .i64 x0), (1, .slice x1 x1n x1c)] (.agg #[.int .i64 x0, .slice x1 x1n x1c]) := fun w => by kernel_rfl
theorem qy_tm82 : tyMap Try.prog 82 3 28 = true := by kernel_rfl
theorem qy_tp31 : tyPtr Try.prog 31 84 = true := by kernel_rfl
set_option maxHeartbeats 2000000 in
theorem law_positions {xs ms : List Int} {oa om : Option Addr} {ca cm : Nat} {M : List HP} {F : List Fact} (hx : ArrF oa (ints xs) ∈ F) (hm : ArrF om (ints ms) ∈ F) (hc : xs.length ≤ ca) (hxs : IntsOk xs) (hms : IntsOk ms) : Ctr Try.prog 3 [.slice oa xs.length ca, .slice om ms.length cm] M F Unit (fun _ => .bool true) (fun _ => M) (fun _ => F) := by
  refine Ctr.body Try.func3 rfl rfl ?_
  refine TR.seq ?_
  refine TR.region ?_
  refine RL.assign rfl rfl rfl ?_
  refine RL.nil ?_
  refine NX.seq ?_
  refine TR.seq ?_
  refine TR.region ?_
  refine RL.move rfl rfl rfl ?_
  refine RL.call rfl rfl Try.call10 rfl (chain_spec (xs := xs) (most := 0) hx hc hxs (by decide)) (fun zc => ?_)
  refine RL.move rfl rfl rfl ?_
  refine RL.extract rfl rfl rfl rfl ?_
  refine RL.extract rfl rfl rfl rfl ?_
  refine RL.assign rfl rfl rfl ?_
  refine RL.assign rfl rfl rfl ?_
  refine RL.nil ?_
  refine NX.seq ?_
  refine TR.seq ?_
  refine TR.region ?_
  refine RL.move rfl rfl rfl ?_
  refine RL.move rfl rfl rfl ?_
  refine RL.call rfl rfl Try.call11 rfl (gEdits_spec (tx := zc.1.t) (xs := ms) (.tail _ (.tail _ hm)) hms (by have := zc.2.1; omega)) (fun ze => ?_)
  refine RL.assign rfl rfl rfl ?_
  refine RL.nil ?_
  refine NX.seq ?_
  refine TR.seq ?_
  refine TR.region ?_
  refine RL.move rfl rfl rfl ?_
  refine RL.move rfl rfl rfl ?_
  refine RL.call rfl rfl Try.call12 rfl (positions_spec (tx := zc.1.t) (es := ze.1.es) (.head _) (by have := ze.2.1; omega) (by have := zc.2.1; omega) (fun e he => sound1_in (by have := zc.2.1; omega) (soundE_sound1 ze.2.sound) he)) (fun zp => ?_)
  refine RL.move rfl rfl rfl ?_
  refine RL.extract rfl rfl rfl rfl ?_
  refine RL.extract rfl rfl rfl rfl ?_
  refine RL.assign rfl rfl rfl ?_
  refine RL.assign rfl rfl rfl ?_
  refine RL.nil ?_
  refine NX.seq ?_
  refine TR.seq ?_
  refine TR.region ?_
  refine RL.move rfl rfl rfl ?_
  refine RL.call rfl rfl Try.call13 rfl (new_spec (tx := zc.1.t) (ver := 7) (by have := zc.2.1; omega) (by decide) (by decide)) (fun qa => ?_)
  refine RL.move rfl rfl rfl ?_
  refine RL.extract rfl rfl rfl rfl ?_
  refine RL.extract rfl rfl rfl rfl ?_
  refine RL.assign rfl rfl rfl ?_
  refine RL.assign rfl rfl rfl ?_
  refine RL.nil ?_
  refine NX.seq ?_
  refine TR.seq ?_
  refine TR.region ?_
  refine RL.move rfl rfl rfl ?_
  refine RL.call rfl rfl Try.call13 rfl (new_spec (tx := zc.1.t) (ver := 7) (by have := zc.2.1; omega) (by decide) (by decide)) (fun qb => ?_)
  refine RL.move rfl rfl rfl ?_
  refine RL.extract rfl rfl rfl rfl ?_
  refine RL.extract rfl rfl rfl rfl ?_
  refine RL.assign rfl rfl rfl ?_
  refine RL.assign rfl rfl rfl ?_
  refine RL.nil ?_
  refine NX.seq ?_
  refine TR.seq ?_
  refine TR.seq ?_
  refine TR.region ?_
  refine RL.move rfl rfl rfl ?_
  refine RL.not rfl rfl rfl ?_
  refine RL.nil ?_
  refine NX.seq ?_
  refine TR.cond rfl (fun h1 => ?_) (fun h1 => ?_)
  · skip
    refine TR.seq ?_
    refine TR.region ?_
    refine RL.call rfl rfl Try.call14 rfl (lives_spec) (fun _ => ?_)
    refine RL.assign rfl rfl rfl ?_
    refine RL.nil ?_
    refine NX.seq ?_
    refine TR.ret ?_
    refine NX.retThen ?_
    exact NX.ret1 () rfl rfl rfl (fun w hw => (hw.to 2 [] 6 [] rfl))
  · skip
    have hpe : (posE zc.1.t ze.1.es []).2 = true := by simpa using h1
    have ho := pos_one ze.2 zc.2.1 hpe
    have hpl := ho.2.2.2.2.1
    have hpt := ho.2.2.2.2.2
    have hno : normR zc.1.t ze.1.es = (normE zc.1.t ze.1.es, 0) := by unfold normR; rw [if_pos ze.2.sound]
    have hz5 := ze.2.1
    have ht96 := zc.2.1
    have htm := (apply_sum (Nat.zero_le _) (soundE_sound1 ze.2.sound)).2
    have htl := ze.2.len
    refine TR.skip ?_
    refine NX.seq ?_
    refine TR.seq ?_
    refine TR.seq ?_
    refine TR.region ?_
    refine RL.move rfl rfl rfl ?_
    refine RL.bin rfl rfl rfl (BinV.to (d := false) BinV.neq (decide_eq_false (by simp))) rfl ?_
    refine RL.move rfl rfl rfl ?_
    refine RL.move rfl rfl rfl ?_
    refine RL.bin rfl rfl rfl (BinV.to (d := false) BinV.neq (decide_eq_false (by simp))) rfl ?_
    refine RL.pickF rfl rfl rfl rfl ?_
    refine RL.move rfl rfl rfl ?_
    refine RL.move rfl rfl rfl ?_
    refine RL.bin rfl rfl rfl (BinV.eqlPtrNil qy_tp31) rfl ?_
    refine RL.pickF rfl rfl rfl rfl ?_
    refine RL.move rfl rfl rfl ?_
    refine RL.move rfl rfl rfl ?_
    refine RL.bin rfl rfl rfl (BinV.eqlPtrNil qy_tp31) rfl ?_
    refine RL.pickF rfl rfl rfl rfl ?_
    refine RL.nil ?_
    refine NX.seq ?_
    refine TR.condF rfl ?_
    refine TR.skip ?_
    refine NX.seq ?_
    refine TR.seq ?_
    refine TR.region ?_
    refine RL.move rfl rfl rfl ?_
    refine RL.move rfl rfl rfl ?_
    refine RL.build rfl rfl (qy_bv39_0_1 _ _ _ _) rfl ?_
    refine RL.call rfl rfl Try.call15 rfl (Ctr.pick 2 [1, 0] rfl (recv_spec (b := qa.1.1) (d := qa.1.2) (h := (⟨7, [(zc.1.t, [])], []⟩ : Hs)) (ver := 8) (l := (posE zc.1.t ze.1.es []).1) qa.2 (.tail _ (.head _)) (.tail _ (.tail _ (.head _))) (by omega) (by omega) ⟨by decide, by decide⟩)) (fun q1 => ?_)
    refine RL.move rfl rfl rfl ?_
    refine RL.extract rfl rfl rfl rfl ?_
    refine RL.extract rfl rfl rfl rfl ?_
    refine RL.assign rfl rfl rfl ?_
    refine RL.assign rfl rfl rfl ?_
    refine RL.nil ?_
    refine NX.seq ?_
    refine TR.seq ?_
    refine TR.region ?_
    refine RL.move rfl rfl rfl ?_
    refine RL.move rfl rfl rfl ?_
    refine RL.call rfl rfl Try.call16 rfl (Ctr.pick 2 [1, 0] rfl (dedit_spec (b := qb.1.1) (d := qb.1.2) (h := (⟨7, [(zc.1.t, [])], []⟩ : Hs)) (l := ze.1.es) qb.2 (.tail _ (.head _)) (.tail _ (.tail _ (.tail _ (.tail _ (.head _))))) (by omega) (fun _ => by have := ze.2.len; show (applyGo zc.1.t 0 ze.1.es).length ≤ _; omega))) (fun q2 => ?_)
    refine RL.move rfl rfl rfl ?_
    refine RL.extract rfl rfl rfl rfl ?_
    refine RL.extract rfl rfl rfl rfl ?_
    refine RL.assign rfl rfl rfl ?_
    refine RL.assign rfl rfl rfl ?_
    refine RL.nil ?_
    refine NX.seq ?_
    refine TR.seq ?_
    have hqa : RelD q1.1 (⟨7, [(zc.1.t, []), (applyGo zc.1.t 0 ze.1.es, ze.1.es)], []⟩ : Hs) := q1.2.of (congrArg Prod.snd ho.2.1)
    have hqb : RelD q2.1 (⟨7, [(zc.1.t, []), (applyGo zc.1.t 0 ze.1.es, ze.1.es)], []⟩ : Hs) := q2.2.of (congrArg Prod.snd ho.2.2.1)
    refine TR.region ?_
    refine RL.move rfl rfl rfl ?_
    refine RL.move rfl rfl rfl ?_
    refine RL.call rfl rfl Try.call17 rfl (bytes_spec (tx := zc.1.t) (l := (posE zc.1.t ze.1.es []).1) (.tail _ (.tail _ (.tail _ (.tail _ (.head _))))) (by omega) (by omega)) (fun zk => ?_)
    refine RL.move rfl rfl rfl ?_
    refine RL.extract rfl rfl rfl rfl ?_
    refine RL.extract rfl rfl rfl rfl ?_
    refine RL.assign rfl rfl rfl ?_
    refine RL.assign rfl rfl rfl ?_
    refine RL.nil ?_
    refine NX.seq ?_
    refine TR.seq ?_
    refine TR.region ?_
    refine RL.move rfl rfl rfl ?_
    refine RL.call rfl rfl Try.call18 rfl (Ctr.pick 2 [1, 0] rfl (since_spec (b := qa.1.1) (d := q1.1) (h := (⟨7, [(zc.1.t, []), (applyGo zc.1.t 0 ze.1.es, ze.1.es)], []⟩ : Hs)) (ver := 7) hqa (.tail _ (.tail _ (.head _))) ⟨by decide, by decide⟩)) (fun zs => ?_)
    refine RL.move rfl rfl rfl ?_
    refine RL.extract rfl rfl rfl rfl ?_
    refine RL.extract rfl rfl rfl rfl ?_
    refine RL.assign rfl rfl rfl ?_
    refine RL.assign rfl rfl rfl ?_
    refine RL.nil ?_
    refine NX.seq ?_
    refine TR.seq ?_
    refine TR.region ?_
    refine RL.move rfl rfl rfl ?_
    refine RL.move rfl rfl rfl ?_
    refine RL.call rfl rfl Try.call19 rfl (Normal_spec (tx := zc.1.t) (es := ze.1.es) (.tail _ (.tail _ (.tail _ (.tail _ (.tail _ (.tail _ (.tail _ (.head _)))))))) (by omega) (by omega) (by omega)) (fun zn => ?_)
    refine RL.move rfl rfl rfl ?_
    refine RL.extract rfl rfl rfl rfl ?_
    refine RL.extract rfl rfl rfl rfl ?_
    refine RL.assign rfl rfl rfl ?_
    refine RL.assign rfl rfl rfl ?_
    refine RL.nil ?_
    refine NX.seq ?_
    refine TR.seq ?_
    refine TR.seq ?_
    refine TR.region ?_
    refine RL.move rfl rfl rfl ?_
    refine RL.bin rfl rfl rfl (BinV.to (d := false) BinV.neq (decide_eq_false (by rw [ho.2.1]; simp))) rfl ?_
    refine RL.move rfl rfl rfl ?_
    refine RL.move rfl rfl rfl ?_
    refine RL.bin rfl rfl rfl (BinV.to (d := false) BinV.neq (decide_eq_false (by rw [ho.2.2.1]; simp))) rfl ?_
    refine RL.pickF rfl rfl rfl rfl ?_
    refine RL.move rfl rfl rfl ?_
    refine RL.move rfl rfl rfl ?_
    refine RL.bin rfl rfl rfl (BinV.to (d := false) BinV.neq (decide_eq_false (by rw [ho.1]; simp))) rfl ?_
    refine RL.pickF rfl rfl rfl rfl ?_
    refine RL.move rfl rfl rfl ?_
    refine RL.move rfl rfl rfl ?_
    refine RL.bin rfl rfl rfl (BinV.to (d := false) BinV.neq (decide_eq_false (by rw [ho.2.2.2.1]; simp))) rfl ?_
    refine RL.pickF rfl rfl rfl rfl ?_
    refine RL.move rfl rfl rfl ?_
    refine RL.move rfl rfl rfl ?_
    refine RL.bin rfl rfl rfl (BinV.to (d := false) BinV.neq (decide_eq_false (by rw [hno]; simp))) rfl ?_
    refine RL.pickF rfl rfl rfl rfl ?_
    refine RL.move rfl rfl rfl ?_
    refine RL.move rfl rfl rfl ?_
    refine RL.bin rfl rfl rfl (BinV.to (d := false) BinV.neq (decide_eq_false (by rw [ho.2.1]; simp))) rfl ?_
    refine RL.pickF rfl rfl rfl rfl ?_
    refine RL.move rfl rfl rfl ?_
    refine RL.move rfl rfl rfl ?_
    refine RL.bin rfl rfl rfl (BinV.to (d := false) BinV.neq (decide_eq_false (by rw [ho.2.2.1]; simp))) rfl ?_
    refine RL.pickF rfl rfl rfl rfl ?_
    refine RL.nil ?_
    refine NX.seq ?_
    refine TR.condF rfl ?_
    refine TR.skip ?_
    refine NX.seq ?_
    refine TR.seq ?_
    refine TR.region ?_
    refine RL.move rfl rfl rfl ?_
    refine RL.call rfl rfl Try.call20 rfl (dtext_spec (b := qa.1.1) (d := q1.1) (h := (⟨7, [(zc.1.t, []), (applyGo zc.1.t 0 ze.1.es, ze.1.es)], []⟩ : Hs)) hqa) (fun _ => ?_)
    refine RL.move rfl rfl rfl ?_
    refine RL.call rfl rfl Try.call20 rfl (Ctr.pick 2 [1, 0] rfl (dtext_spec (b := qb.1.1) (d := q2.1) (h := (⟨7, [(zc.1.t, []), (applyGo zc.1.t 0 ze.1.es, ze.1.es)], []⟩ : Hs)) hqb)) (fun _ => ?_)
    refine RL.bin rfl rfl rfl (BinV.to (d := true) BinV.eqlS (decide_eq_true rfl)) rfl ?_
    refine RL.move rfl rfl rfl ?_
    refine RL.move rfl rfl rfl ?_
    refine RL.move rfl rfl rfl ?_
    refine RL.call rfl rfl Try.call21 rfl (Ctr.boolT (decide_eq_true (by rw [ho.1])) (same_spec (xs := (posM zc.1.t (posE zc.1.t ze.1.es []).1).1) (ys := ze.1.es) (.tail _ (.tail _ (.head _))) (.tail _ (.tail _ (.tail _ (.tail _ (.tail _ (.tail _ (.tail _ (.tail _ (.head _))))))))) (by rw [ho.1]; show ze.1.es.length ≤ _; omega))) (fun _ => ?_)
    refine RL.pickT rfl rfl rfl rfl ?_
    refine RL.move rfl rfl rfl ?_
    refine RL.move rfl rfl rfl ?_
    refine RL.move rfl rfl rfl ?_
    refine RL.call rfl rfl Try.call21 rfl (Ctr.boolT (decide_eq_true (by rw [ho.2.2.2.1, hno])) (same_spec (xs := (sinceH (⟨7, [(zc.1.t, []), (applyGo zc.1.t 0 ze.1.es, ze.1.es)], []⟩ : Hs) 7).1) (ys := (normR zc.1.t ze.1.es).1) (.tail _ (.head _)) (.head _) (Nat.le_trans (sinceH_len _ 7) (by decide)))) (fun _ => ?_)
    refine RL.pickT rfl rfl rfl rfl ?_
    refine RL.move rfl rfl rfl ?_
    refine RL.call rfl rfl Try.call14 rfl (lives_spec) (fun _ => ?_)
    refine RL.pickT rfl rfl rfl rfl ?_
    refine RL.assign rfl rfl rfl ?_
    refine RL.nil ?_
    refine NX.seq ?_
    refine TR.ret ?_
    exact NX.ret1 () rfl rfl rfl (fun w hw => (hw.to 2 [] 11 [] rfl))

end Go.Proofs.Ytkdeopioelocnaa

namespace Go.Proofs.Ytkdeopioelocnaa
open Go.ChangeShapes Go.WideShapes Go.ChangeAt Go.RowKit Go.GL Go.GL.Tree
theorem documentPositions_params : Try.f3.params = #[22, 22] := by kernel_rfl
set_option maxRecDepth 100000 in
theorem documentPositions_lifted (os : Os) (started : os.Started) (H : Type) (enc : TypeId × Value → H) :
    ReturnsInHanded {} Try.checked os 3 .any (Rows.documentPositionsSpec.pre6 enc Try.prog Try.f3 Rows.documentPositionsRow.domain false) (Rows.documentPositionsSpec.post enc Try.prog Try.f3 false true false false) := by
  refine returnsInHanded_of_change (C := Try.checked) own_ started (by kernel_rfl) Try.func3
    (ChangeSpec.witness6 (enc := enc) (C := Try.checked) false ⟨#[], #[.slice none 0 0, .slice none 0 0], []⟩ 8 (by kernel_rfl) (by kernel_rfl) (by kernel_rfl) (by kernel_rfl)) ?_
  intro W base args ds gs before hval0 hW _ _
  have hval : ∀ (j : Nat) t v, Try.f3.params[j]? = some t → args[j]? = some v → Value.okWide Try.prog W .any base t v := hval0
  have hW' := hW
  obtain ⟨p, q, hA0, hV, rfl, hfz, hnd⟩ := hW
  have hA : DataW.TrodAll enc Try.prog W 0 (fun _ => true) true Try.f3.params.toList args.toList ds p := hA0
  rw [documentPositions_params] at hA hval
  obtain ⟨v0, vs0, d0, ds0, p0, q0, hargs, rfl, rfl, h0, r0⟩ := trodAll_cons hA
  obtain ⟨v1, vs1, d1, ds1, p1, q1, rfl, rfl, rfl, h1, r1⟩ := trodAll_cons r0
  obtain ⟨rfl, rfl, rfl⟩ := trodAll_nil r1
  obtain rfl : args = #[v0, v1] := by cases args; simp_all
  obtain ⟨oa0, ca0, xs0, rfl, hxa0, hxl0, hxm0, hxr0⟩ := in_ints1 sl22 i64_3 one3 (hval 0 22 v0 rfl rfl) h0
  have hok0 : IntsOk xs0 := ⟨by simp [maxLen] at hxm0; omega, hxr0⟩
  obtain ⟨oa1, ca1, xs1, rfl, hxa1, hxl1, hxm1, hxr1⟩ := in_ints1 sl22 i64_3 one3 (hval 1 22 v1 rfl rfl) h1
  have hok1 : IntsOk xs1 := ⟨by simp [maxLen] at hxm1; omega, hxr1⟩
  have hwalk := law_run (W := W) (law_positions (xs := xs0) (ms := xs1) (oa := oa0) (om := oa1) (ca := ca0) (cm := ca1) (M := []) (F := [OldF W, ArrF oa0 (ints xs0), ArrF oa1 (ints xs1)]) (.tail _ (.head _)) (.tail _ (.tail _ (.head _))) hxl0 hok0 hok1) (fun φ hφ => by
      rcases List.mem_cons.1 hφ with e | hφ
      · subst e; exact hxa0
      rcases List.mem_cons.1 hφ with e | hφ
      · subst e; exact hxa1
      cases hφ)
  exact hwalk.mono fun e W' ⟨he, hb⟩ => ⟨_, he, law_post (tb := 4) laidOut_ (by kernel_rfl) rfl (by kernel_rfl) (by kernel_rfl) rfl hW' hb⟩
theorem documentPositions_holds : Rows.DocumentPositionsSaid :=
  OpenClaim.holds_of_wide 3 Try.f3 rfl rfl rfl rfl rfl rfl rfl ⟨rfl, rfl, rfl, rfl, rfl⟩ rfl rfl rfl rfl rfl (by kernel_rfl) Try.func3 (by kernel_rfl)
    (of_decide_eq_true (by kernel_rfl)) (by unfold Func.isWrapper; first | (rw [if_pos (by decide +kernel)]; kernel_rfl) | (rw [if_neg (by decide +kernel)]; exact ⟨rfl, rfl⟩))
    (fun os started H enc _ => documentPositions_lifted os started H enc)
end Go.Proofs.Ytkdeopioelocnaa
