/- Walks of the functions of package syntax and of its reference model. Printed by s07.py. -/
import Derived.Test.YtnolpmigiboanaaBld
import Derived.Test.YtnolpmigiboanaaT4
namespace Go.Proofs.Ytnolpmigiboanaa
open Go.GL Go.GL.Tree
theorem e_bs23_1_0 (x00 : Int) (x01 : Int) (x02 : List UInt8) (x03 : Option Addr) (x03n x03c : Nat) : BuildSV Try.prog 23 25 1 [(0, .agg #[.int .i64 x00, .int .i64 x01, S x02, .slice x03 x03n x03c])] [.int .i64 x00, .int .i64 x01, S x02, .slice x03 x03n x03c] := fun w => by kernel_rfl
theorem e_bs95_10_0_1_2_3_4_5_6_7_8_9 (x0 : List UInt8) (x1 : List UInt8) (x2 : List UInt8) (x3 : List UInt8) (x4 : List UInt8) (x5 : List UInt8) (x6 : List UInt8) (x7 : List UInt8) (x8 : List UInt8) (x9 : List UInt8) : BuildSV Try.prog 95 9 10 [(0, S x0), (1, S x1), (2, S x2), (3, S x3), (4, S x4), (5, S x5), (6, S x6), (7, S x7), (8, S x8), (9, S x9)] [S x0, S x1, S x2, S x3, S x4, S x5, S x6, S x7, S x8, S x9] := fun w => by kernel_rfl
theorem e_bv25_0 (x0 : Int) : BuildV Try.prog 25 [(0, .int .i64 x0)] (.agg #[.int .i64 x0, .int .i64 0, S [], .slice none 0 0]) := fun w => by kernel_rfl
theorem e_ni23 : noInt Try.prog 23 = true := by kernel_rfl
theorem e_ta25 : tyAgg Try.prog 25 4 = true := by kernel_rfl
theorem e_te25 : tyElem Try.prog 25 4 56 = true := by kernel_rfl
theorem e_tf25_1 : fieldOff Try.prog 25 1 1 = true := by kernel_rfl
theorem e_tf25_2 : fieldOff Try.prog 25 2 2 = true := by kernel_rfl
theorem e_tf25_3 : fieldOff Try.prog 25 3 3 = true := by kernel_rfl
theorem e_tl23 : tySlice Try.prog 23 25 = true := by kernel_rfl
theorem e_tl95 : tySlice Try.prog 95 9 = true := by kernel_rfl
theorem e_ts23 : tyScalar Try.prog 23 = true := by kernel_rfl
theorem e_ts3 : tyScalar Try.prog 3 = true := by kernel_rfl
theorem e_ts9 : tyScalar Try.prog 9 = true := by kernel_rfl
theorem e_tz25 : tySize Try.prog 25 4 = true := by kernel_rfl
theorem e_tz9 : tySize Try.prog 9 1 = true := by kernel_rfl
def txs : List (List UInt8) := [[97], [32], [43], [49, 50], [], [108, 101, 116], [10], [34, 120, 34], [97, 98, 95, 49], [195, 169]]
theorem txs_le {i : Nat} (h : i < txs.length) : txs[i].length ≤ 8 := by
  have : ∀ l, l ∈ txs → l.length ≤ 8 := by decide
  exact this _ (List.getElem_mem h)
structure GX where
  r : Nat
  k : Int
  oa : Option Addr
  oc : Nat
  xs : List Value
  ts : List Tree
theorem small_leaf {i k : Int} {tx : List UInt8} {d : Nat} (hd : 1 ≤ d) (h : tx.length ≤ 8) : Small d (.node i k tx []) := by
  cases d with
  | zero => omega
  | succ d => exact ⟨h, Nat.zero_le _, fun _ => rfl, fun k hk => by cases hk⟩
theorem small_inner {i k : Int} {ts : List Tree} {d : Nat} (hk : 8 < k) (hl : ts.length ≤ 4) (h : ∀ t, t ∈ ts → Small d t) : Small (d + 1) (.node i k [] ts) := by
  refine ⟨Nat.zero_le _, hl, fun h9 => ?_, h⟩
  have h8 : (decide (0 ≤ k) && decide (k ≤ 8)) = true := h9
  simp at h8
  omega

theorem tree_spec {d : Nat} : ∀ {xs : List Int} {oa : Option Addr} {ca g : Nat} {k : Int} {M : List HP} {F : List Fact} (ha : ArrF oa (ints xs) ∈ F) (hxs : IntsOk xs) {dd : Int} (hd0 : 1 ≤ d) (hd6 : d ≤ 8) (hdd : dd = d), Ctr Try.prog 40 [.pointer (some ⟨g, 0, none⟩), I dd] (Box g 69 [.slice oa xs.length ca, I k] :: M) F ({x : TX // Small d x.t} × Int) (fun x => x.1.1.v) (fun x => Box g 69 [.slice oa xs.length ca, I x.2] :: M) (fun x => TreeF x.1.1.t x.1.1.v :: F) := by
  induction d with
  | zero => intro xs oa ca g k M F ha hxs dd hd0 hd6 hdd; omega
  | succ d tree_spec =>
  intro xs oa ca g k M F ha hxs dd hd0 hd6 hdd
  refine Ctr.body Try.func40 rfl rfl ?_
  refine TR.seq ?_
  refine TR.region ?_
  refine RL.allocA rfl (Try.zeroValue25) rfl (fun b1 => ?_)
  refine RL.nil ?_
  refine NX.seq ?_
  refine TR.seq ?_
  refine TR.region ?_
  refine RL.buildSlice rfl rfl (e_bs95_10_0_1_2_3_4_5_6_7_8_9 _ _ _ _ _ _ _ _ _ _) rfl (fun b2 => ?_)
  refine RL.weak (fun w hw => St.keep (cs := txs.map S) hw) ?_
  refine RL.assign rfl rfl rfl ?_
  refine RL.nil ?_
  refine NX.seq ?_
  refine TR.seq ?_
  refine TR.region ?_
  refine RL.move rfl rfl rfl ?_
  refine RL.call rfl rfl Try.call39 rfl (Ctr.frame1 [_] (next_spec (.tail _ ha) hxs (by omega))) (fun v2 => ?_)
  refine RL.build rfl rfl (e_bv25_0 _) rfl ?_
  refine RL.allocA rfl (Try.zeroValue25) rfl (fun b3 => ?_)
  refine RL.storeA 0 rfl rfl rfl rfl e_tz25 rfl rfl ?_
  refine RL.nil ?_
  refine NX.seq ?_
  refine TR.seq ?_
  refine TR.seq ?_
  refine TR.region ?_
  refine RL.move rfl rfl rfl ?_
  refine RL.bin rfl rfl rfl BinV.leq rfl ?_
  refine RL.move rfl rfl rfl ?_
  refine RL.part (fun h4 => ?_) (fun h4 => ?_)
  · skip
    refine RL.skip rfl rfl rfl ?_
    refine RL.skip rfl rfl rfl ?_
    refine RL.skip rfl rfl rfl ?_
    refine RL.pickT rfl rfl rfl rfl ?_
    refine RL.nil ?_
    refine NX.seq ?_
    refine TR.condT rfl ?_
    refine TR.seq ?_
    refine TR.region ?_
    refine RL.move rfl rfl rfl ?_
    refine RL.call rfl rfl Try.call39 rfl (Ctr.frame1 [_, _] (next_spec (.tail _ ha) hxs (by omega))) (fun v4 => ?_)
    refine RL.fieldAddr rfl e_tf25_1 rfl rfl ?_
    refine RL.store1 0 rfl e_ts3 rfl rfl rfl rfl rfl ?_
    refine RL.nil ?_
    refine NX.seq ?_
    refine TR.seq ?_
    refine TR.region ?_
    refine RL.move rfl rfl rfl ?_
    refine RL.move rfl rfl rfl ?_
    refine RL.move rfl rfl rfl ?_
    refine RL.lenSlice rfl e_tl95 rfl rfl ?_
    refine RL.call rfl rfl Try.call39 rfl (Ctr.frame1 [_, _] (next_spec (.tail _ ha) hxs (by omega))) (fun v5 => ?_)
    have hv5 := v5.1.2
    have htl : txs.length = 10 := rfl
    have hi : v5.1.1.toNat < txs.length := by omega
    refine RL.indexAddr rfl e_tl95 e_tz9 rfl rfl (by omega) (by omega) rfl ?_
    refine RL.loadF rfl rfl (fun w K hF => run_loadCell1 (j := v5.1.1.toNat * 1) (v := S txs[v5.1.1.toNat]) (hF _ (.head _)) e_ts9 (by rw [List.getElem?_map, Nat.mul_one, List.getElem?_eq_getElem hi]; rfl)) rfl ?_
    refine RL.fieldAddr rfl e_tf25_2 rfl rfl ?_
    refine RL.store1 0 rfl e_ts9 rfl rfl rfl rfl rfl ?_
    refine RL.nil ?_
    refine NX.seq ?_
    refine TR.seq ?_
    refine TR.region ?_
    refine RL.loadA 0 rfl rfl rfl e_ta25 rfl ?_
    refine RL.storeA 1 rfl rfl rfl rfl e_tz25 rfl rfl ?_
    refine RL.nil ?_
    refine NX.seq ?_
    refine TR.ret ?_
    refine NX.retThen ?_
    refine NX.retCx (j := 1) rfl rfl rfl e_ta25 (fun w hw => ⟨(⟨⟨.node v2.1.1 v4.1.1 txs[v5.1.1.toNat] [], none, 0, 0⟩, small_leaf (by omega) (txs_le hi)⟩, v5.2), rfl, ?_⟩)
    exact (((hw.drop 0 rfl).drop 0 rfl).facts (F' := F) (fun φ h => .tail _ h)).leafT _ _ _
  · skip
    have hp := of_decide_eq_false h4
    refine RL.move rfl rfl rfl ?_
    refine RL.call rfl rfl Try.call39 rfl (Ctr.frame1 [_, _] (next_spec (.tail _ ha) hxs (by omega))) (fun v3 => ?_)
    refine RL.bin rfl rfl rfl BinV.eql rfl ?_
    refine RL.pickF rfl rfl rfl rfl ?_
    refine RL.nil ?_
    refine NX.seq ?_
    refine TR.cond rfl (fun h5 => ?_) (fun h5 => ?_)
    · skip
      refine TR.seq ?_
      refine TR.region ?_
      refine RL.move rfl rfl rfl ?_
      refine RL.call rfl rfl Try.call39 rfl (Ctr.frame1 [_, _] (next_spec (.tail _ ha) hxs (by omega))) (fun v4 => ?_)
      refine RL.fieldAddr rfl e_tf25_1 rfl rfl ?_
      refine RL.store1 0 rfl e_ts3 rfl rfl rfl rfl rfl ?_
      refine RL.nil ?_
      refine NX.seq ?_
      refine TR.seq ?_
      refine TR.region ?_
      refine RL.move rfl rfl rfl ?_
      refine RL.move rfl rfl rfl ?_
      refine RL.move rfl rfl rfl ?_
      refine RL.lenSlice rfl e_tl95 rfl rfl ?_
      refine RL.call rfl rfl Try.call39 rfl (Ctr.frame1 [_, _] (next_spec (.tail _ ha) hxs (by omega))) (fun v5 => ?_)
      have hv5 := v5.1.2
      have htl : txs.length = 10 := rfl
      have hi : v5.1.1.toNat < txs.length := by omega
      refine RL.indexAddr rfl e_tl95 e_tz9 rfl rfl (by omega) (by omega) rfl ?_
      refine RL.loadF rfl rfl (fun w K hF => run_loadCell1 (j := v5.1.1.toNat * 1) (v := S txs[v5.1.1.toNat]) (hF _ (.head _)) e_ts9 (by rw [List.getElem?_map, Nat.mul_one, List.getElem?_eq_getElem hi]; rfl)) rfl ?_
      refine RL.fieldAddr rfl e_tf25_2 rfl rfl ?_
      refine RL.store1 0 rfl e_ts9 rfl rfl rfl rfl rfl ?_
      refine RL.nil ?_
      refine NX.seq ?_
      refine TR.seq ?_
      refine TR.region ?_
      refine RL.loadA 0 rfl rfl rfl e_ta25 rfl ?_
      refine RL.storeA 1 rfl rfl rfl rfl e_tz25 rfl rfl ?_
      refine RL.nil ?_
      refine NX.seq ?_
      refine TR.ret ?_
      refine NX.retThen ?_
      refine NX.retCx (j := 1) rfl rfl rfl e_ta25 (fun w hw => ⟨(⟨⟨.node v2.1.1 v4.1.1 txs[v5.1.1.toNat] [], none, 0, 0⟩, small_leaf (by omega) (txs_le hi)⟩, v5.2), rfl, ?_⟩)
      exact (((hw.drop 0 rfl).drop 0 rfl).facts (F' := F) (fun φ h => .tail _ h)).leafT _ _ _
    · skip
      have hd1 : 1 ≤ d := by omega
      refine TR.skip ?_
      refine NX.seq ?_
      refine TR.seq ?_
      refine TR.region ?_
      refine RL.move rfl rfl rfl ?_
      refine RL.call rfl rfl Try.call39 rfl (Ctr.frame1 [_, _] (next_spec (.tail _ ha) hxs (by omega))) (fun v7 => ?_)
      have hv37 := v7.1.2
      refine RL.bin rfl rfl rfl (BinV.add _ rfl (by omega) (by omega)) rfl ?_
      skip
      refine RL.fieldAddr rfl e_tf25_1 rfl rfl ?_
      refine RL.store1 0 rfl e_ts3 rfl rfl rfl rfl rfl ?_
      refine RL.nil ?_
      refine NX.seq ?_
      refine TR.seq ?_
      refine TR.seq ?_
      refine TR.region ?_
      refine RL.move rfl rfl rfl ?_
      refine RL.call rfl rfl Try.call39 rfl (Ctr.frame1 [_, _] (next_spec (.tail _ ha) hxs (by omega))) (fun v8 => ?_)
      refine RL.assign rfl rfl rfl ?_
      refine RL.nil ?_
      refine NX.seq ?_
      refine TR.block ?_
      refine TR.loopP (ι := GX) (fun x => x.ts.length + x.r ≤ 4 ∧ ∀ t, t ∈ x.ts → Small d t) (fun x => [(0, .pointer (some ⟨g, 0, none⟩)), (1, I dd), (4, .pointer (some ⟨b1, 0, none⟩)), (6, .pointer (some ⟨b3, 0, none⟩)), (7, I x.r)]) (fun x => OwnSl 25 4 x.oa x.ts.length x.oc x.xs :: Box b3 25 [I v2.1.1, I (16 + v7.1.1), S [], .slice x.oa x.ts.length x.oc] :: Box b1 25 [I 0, I 0, S [], .slice none 0 0] :: Box g 69 [.slice oa xs.length ca, I x.k] :: M) (fun x => TreesF x.ts x.xs :: CellsF b2 0 (txs.map S) :: F) (fun x => x.r) ⟨v8.1.1.toNat, v8.2, none, 0, [], []⟩ ⟨by have := v8.1.2; show 0 + v8.1.1.toNat ≤ 4; omega, fun t ht => by cases ht⟩ ⟨rfl, rfl, rfl, rfl, congrArg (fun z => some (I z)) (show v8.1.1 = (v8.1.1.toNat : Int) by have := v8.1.2; omega), trivial⟩ (fun w hw => OwnSl.nil_new 25 4 hw.trees0) (fun x hx => ?_)
      refine TR.seq ?_
      refine TR.seq ?_
      refine TR.region ?_
      refine RL.move rfl rfl rfl ?_
      refine RL.bin rfl rfl rfl BinV.gtr rfl ?_
      refine RL.nil ?_
      refine NX.seq ?_
      refine TR.cond rfl (fun h6 => ?_) (fun h6 => ?_)
      · skip
        have hr0 := of_decide_eq_true h6
        have hxl := hx.1
        refine TR.skip ?_
        refine NX.seq ?_
        refine TR.seq ?_
        refine TR.block ?_
        refine TR.sub (E' := [(0, _), (1, _), (4, _), (6, _), (7, _), (37, _), (38, _)]) ⟨rfl, rfl, rfl, rfl, rfl, rfl, rfl, trivial⟩ ?_
        refine TR.draw mixed ?_
        apply AR.more [(0, _), (1, _), (2, _), (3, _), (4, _)]
        refine AR.eff [0, 1, 2, 3, 4] 5 [0, 1, 2, 3, 4, 5, 6, 7, 8, 9] ⟨QOne.yes rfl rfl rfl (PV.fieldAddr e_tf25_3 rfl), QOne.yes rfl rfl rfl (PV.load1 1 e_ts23 rfl rfl rfl), QOne.yes rfl rfl rfl (PV.move rfl), QOne.yes rfl rfl rfl (PV.move rfl), QOne.yes rfl rfl rfl (PV.bin rfl rfl (BinV.sub _ rfl (by omega) (by omega))), trivial⟩ rfl rfl rfl rfl rfl rfl rfl (EV.call rfl Try.call40 (Ctr.frame1 [_, _, _] (tree_spec (k := x.k) (.tail _ (.tail _ ha)) hxs hd1 (by omega) (by omega)))) (fun z => ?_)
        refine AR.done [2, 4, 3] rfl ?_
        refine AR.eff [0, 1] 6 [0, 1, 2, 3, 4, 5, 6, 7, 8, 9] ⟨QOne.yes rfl rfl rfl (PV.fieldAddr e_tf25_3 rfl), QOne.yes rfl rfl rfl (PV.load1 1 e_ts23 rfl rfl rfl), trivial⟩ rfl rfl rfl rfl rfl rfl rfl (EV.buildSlice rfl (e_bs23_1_0 _ _ _ _ _ _)) (fun b7 => ?_)
        refine AR.eff [0, 1] 7 [0, 1, 2, 3, 4, 5, 6, 7, 8, 9] ⟨QOne.yes rfl rfl rfl (PV.fieldAddr e_tf25_3 rfl), QOne.yes rfl rfl rfl (PV.load1 2 e_ts23 rfl rfl rfl), trivial⟩ rfl rfl rfl rfl rfl rfl rfl (EV.ofGV (GV.append (j := 1) e_tl23 e_ni23 e_te25 rfl rfl rfl (src_box (i := 0) rfl rfl rfl) (by omega) (by omega))) (fun y => ?_)
        refine AR.done [1, 0] rfl ?_
        apply AR.more [(8, _)]
        refine AR.eff [8] 9 [0, 1, 2, 3, 4, 5, 6, 7, 8, 9] ⟨QOne.yes rfl rfl rfl (PV.fieldAddr e_tf25_3 rfl), trivial⟩ rfl rfl rfl rfl rfl rfl rfl (EV.store1 2 e_ts23 rfl rfl rfl rfl rfl) (fun _ => ?_)
        refine AR.done [8] rfl ?_
        refine AR.last [] [0, 1, 2, 3, 4, 5, 6, 7, 8, 9] trivial rfl rfl rfl ?_
        refine NX.sub (E' := [(0, _), (1, _), (4, _), (6, _), (7, _), (37, _), (38, _), (41, _), (42, _), (43, _), (44, _), (45, _), (46, _), (47, _), (48, _), (49, _)]) ⟨rfl, rfl, rfl, rfl, rfl, rfl, rfl, rfl, rfl, rfl, rfl, rfl, rfl, rfl, rfl, rfl, trivial⟩ ?_
        refine NX.off ?_
        refine NX.seq ?_
        refine TR.region ?_
        refine RL.move rfl rfl rfl ?_
        refine RL.bin rfl rfl rfl (BinV.sub _ rfl (by omega) (by omega)) rfl ?_
        refine RL.assign rfl rfl rfl ?_
        refine RL.nil ?_
        refine NX.roundP ⟨x.r - 1, z.2, y.1, y.2, x.xs ++ z.1.1.c, x.ts ++ [z.1.1.t]⟩ ⟨?_, fun t ht => ?_⟩ (by show x.r - 1 < x.r; omega) ⟨rfl, rfl, rfl, rfl, congrArg (fun z => some (I z)) (show (x.r : Int) - 1 = ((x.r - 1 : Nat) : Int) by omega), trivial⟩ (fun w hw => ?_)
        · show (x.ts ++ [_]).length + (x.r - 1) ≤ 4; rw [List.length_append]; simp; omega
        · rcases List.mem_append.1 ht with h9 | h9
          · exact hx.2 t h9
          · rw [List.mem_singleton.1 h9]; exact z.1.2
        · have h9 := ((hw.drop 0 rfl).trees1 (ts := x.ts) (cs := x.xs) (t := z.1.1.t) (a := z.1.1.a) (len := z.1.1.len) (cap := z.1.1.cap) (.tail _ (.head _)) (.head _)).facts (F' := TreesF (x.ts ++ [z.1.1.t]) (x.xs ++ z.1.1.c) :: CellsF b2 0 (txs.map S) :: F) (fun φ h => by
            rcases List.mem_cons.1 h with e | h
            · subst e; exact .head _
            · exact .tail _ (.tail _ (.tail _ h)))
          show St w (OwnSl 25 4 y.1 (x.ts ++ [_]).length y.2 (x.xs ++ z.1.1.c) :: Box _ 25 [_, _, _, .slice y.1 (x.ts ++ [_]).length y.2] :: _) _
          rw [List.length_append]
          exact h9
      · skip
        have hr0 := of_decide_eq_false h6
        have hxl := hx.1
        refine TR.exit ?_
        refine NX.exitThen ?_
        refine NX.exitThen ?_
        refine NX.exitHere ?_
        refine NX.seq ?_
        refine TR.seq ?_
        refine TR.region ?_
        refine RL.loadA 1 rfl rfl rfl e_ta25 rfl ?_
        refine RL.storeA 2 rfl rfl rfl rfl e_tz25 rfl rfl ?_
        refine RL.nil ?_
        refine NX.seq ?_
        refine TR.ret ?_
        refine NX.retCx (j := 2) rfl rfl rfl e_ta25 (fun w hw => ?_)
        have h9 := hw.treeSl (.node v2.1.1 (16 + v7.1.1) [] x.ts) (.head _)
        exact ⟨(⟨⟨.node v2.1.1 (16 + v7.1.1) [] x.ts, x.oa, x.ts.length, x.oc⟩, small_inner (by omega) (by omega) hx.2⟩, x.k), rfl, ((h9.2.drop 0 rfl).drop 0 rfl).facts (fun φ h => by
          rcases List.mem_cons.1 h with e | h
          · subst e; exact .head _
          · exact .tail _ (.tail _ (.tail _ h)))⟩

end Go.Proofs.Ytnolpmigiboanaa
