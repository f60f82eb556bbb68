/- Walks of the functions of package syntax and of its reference model. Printed by s07.py. -/
import Derived.Test.YtnolpmigiboanaaBld
import Derived.Test.YtnolpmigiboanaaT5
namespace Go.Proofs.Ytnolpmigiboanaa
open Go.GL Go.GL.Tree
theorem f_bs23_1_0 (x00 : Int) (x01 : Int) (x02 : List UInt8) (x03 : Option Addr) (x03n x03c : Nat) : BuildSV Try.prog 23 25 1 [(0, .agg #[.int .i64 x00, .int .i64 x01, S x02, .slice x03 x03n x03c])] [.int .i64 x00, .int .i64 x01, S x02, .slice x03 x03n x03c] := fun w => by kernel_rfl
theorem f_bv25_0_1 (x0 : Int) (x1 : Int) : BuildV Try.prog 25 [(0, .int .i64 x0), (1, .int .i64 x1)] (.agg #[.int .i64 x0, .int .i64 x1, S [], .slice none 0 0]) := fun w => by kernel_rfl
theorem f_bv25_1_0 (x0 : Int) (x1 : Int) : BuildV Try.prog 25 [(1, .int .i64 x1), (0, .int .i64 x0)] (.agg #[.int .i64 x0, .int .i64 x1, S [], .slice none 0 0]) := fun w => by kernel_rfl
theorem f_bv69_0 (x0 : Option Addr) (x0n x0c : Nat) : BuildV Try.prog 69 [(0, .slice x0 x0n x0c)] (.agg #[.slice x0 x0n x0c, .int .i64 0]) := fun w => by kernel_rfl
theorem f_ni23 : noInt Try.prog 23 = true := by kernel_rfl
theorem f_ta25 : tyAgg Try.prog 25 4 = true := by kernel_rfl
theorem f_te25 : tyElem Try.prog 25 4 56 = true := by kernel_rfl
theorem f_tf25_0 : fieldOff Try.prog 25 0 0 = true := by kernel_rfl
theorem f_tf25_1 : fieldOff Try.prog 25 1 1 = true := by kernel_rfl
theorem f_tf25_2 : fieldOff Try.prog 25 2 2 = true := by kernel_rfl
theorem f_tf25_3 : fieldOff Try.prog 25 3 3 = true := by kernel_rfl
theorem f_tl23 : tySlice Try.prog 23 25 = true := by kernel_rfl
theorem f_ts23 : tyScalar Try.prog 23 = true := by kernel_rfl
theorem f_ts3 : tyScalar Try.prog 3 = true := by kernel_rfl
theorem f_ts9 : tyScalar Try.prog 9 = true := by kernel_rfl
theorem f_tstr9 : tyStr Try.prog 9 = true := by kernel_rfl
theorem f_tz25 : tySize Try.prog 25 4 = true := by kernel_rfl
theorem Tree_spec {xs : List Int} {oa : Option Addr} {ca : Nat} {M : List HP} {F : List Fact} (ha : ArrF oa (ints xs) ∈ F) (hxs : IntsOk xs) : Ctr Try.prog 12 [.slice oa xs.length ca] M F {x : TX // Small 5 x.t} (fun x => x.1.v) (fun _ => M) (fun x => TreeF x.1.t x.1.v :: F) := by
  refine Ctr.body Try.func12 rfl rfl ?_
  refine TR.seq ?_
  refine TR.region ?_
  refine RL.allocA rfl (Try.zeroValue25) rfl (fun b1 => ?_)
  refine RL.nil ?_
  refine NX.seq ?_
  refine TR.seq ?_
  refine TR.region ?_
  refine RL.move rfl rfl rfl ?_
  refine RL.build rfl rfl (f_bv69_0 _ _ _) rfl ?_
  refine RL.boxA rfl rfl rfl (fun b2 => ?_)
  refine RL.assign rfl rfl rfl ?_
  refine RL.nil ?_
  refine NX.seq ?_
  refine TR.seq ?_
  refine TR.region ?_
  refine RL.move rfl rfl rfl ?_
  refine RL.call rfl rfl Try.call39 rfl (Ctr.frame1 [] (next_spec ha hxs (by omega))) (fun v2 => ?_)
  refine RL.build rfl rfl (f_bv25_1_0 _ _) rfl ?_
  refine RL.allocA rfl (Try.zeroValue25) rfl (fun b3 => ?_)
  refine RL.storeA 0 rfl rfl rfl rfl f_tz25 rfl rfl ?_
  refine RL.nil ?_
  refine NX.seq ?_
  refine TR.seq ?_
  refine TR.seq ?_
  refine TR.region ?_
  refine RL.move rfl rfl rfl ?_
  refine RL.call rfl rfl Try.call39 rfl (Ctr.frame1 [_] (next_spec ha hxs (by omega))) (fun v3 => ?_)
  refine RL.assign rfl rfl rfl ?_
  refine RL.nil ?_
  refine NX.seq ?_
  refine TR.block ?_
  refine TR.loopP (ι := GX) (fun x => x.ts.length + x.r ≤ 4 ∧ ∀ t, t ∈ x.ts → Small 4 t) (fun x => [(2, .pointer (some ⟨b1, 0, none⟩)), (3, .pointer (some ⟨b2, 0, none⟩)), (4, .pointer (some ⟨b3, 0, none⟩)), (5, I x.r)]) (fun x => OwnSl 25 4 x.oa x.ts.length x.oc x.xs :: Box b3 25 [I v2.1.1, I 16, S [], .slice x.oa x.ts.length x.oc] :: Box b2 69 [.slice oa xs.length ca, I x.k] :: Box b1 25 [I 0, I 0, S [], .slice none 0 0] :: M) (fun x => TreesF x.ts x.xs :: F) (fun x => x.r) ⟨v3.1.1.toNat, v3.2, none, 0, [], []⟩ ⟨by have := v3.1.2; show 0 + v3.1.1.toNat ≤ 4; omega, fun t ht => by cases ht⟩ ⟨rfl, rfl, rfl, congrArg (fun z => some (I z)) (show v3.1.1 = (v3.1.1.toNat : Int) by have := v3.1.2; omega), trivial⟩ (fun w hw => OwnSl.nil_new 25 4 hw.trees0) (fun x hx => ?_)
  refine TR.seq ?_
  refine TR.seq ?_
  refine TR.region ?_
  refine RL.move rfl rfl rfl ?_
  refine RL.bin rfl rfl rfl BinV.gtr rfl ?_
  refine RL.nil ?_
  refine NX.seq ?_
  refine TR.cond rfl (fun h4 => ?_) (fun h4 => ?_)
  · skip
    have hr0 := of_decide_eq_true h4
    have hxl := hx.1
    refine TR.skip ?_
    refine NX.seq ?_
    refine TR.seq ?_
    refine TR.block ?_
    refine TR.sub (E' := [(2, _), (3, _), (4, _), (5, _), (14, _), (15, _)]) ⟨rfl, rfl, rfl, rfl, rfl, rfl, trivial⟩ ?_
    refine TR.draw mixed ?_
    apply AR.more [(0, _), (1, _), (2, _)]
    refine AR.eff [0, 1, 2] 3 [0, 1, 2, 3, 4, 5, 6, 7] ⟨QOne.yes rfl rfl rfl (PV.fieldAddr f_tf25_3 rfl), QOne.yes rfl rfl rfl (PV.load1 1 f_ts23 rfl rfl rfl), QOne.yes rfl rfl rfl (PV.move rfl), trivial⟩ rfl rfl rfl rfl rfl rfl rfl (EV.call rfl Try.call40 (Ctr.frame1 [_, _] (tree_spec (d := 4) (k := x.k) (.tail _ ha) hxs (by omega) (by omega) rfl))) (fun z => ?_)
    refine AR.done [2] rfl ?_
    refine AR.eff [0, 1] 4 [0, 1, 2, 3, 4, 5, 6, 7] ⟨QOne.yes rfl rfl rfl (PV.fieldAddr f_tf25_3 rfl), QOne.yes rfl rfl rfl (PV.load1 1 f_ts23 rfl rfl rfl), trivial⟩ rfl rfl rfl rfl rfl rfl rfl (EV.buildSlice rfl (f_bs23_1_0 _ _ _ _ _ _)) (fun b5 => ?_)
    refine AR.eff [0, 1] 5 [0, 1, 2, 3, 4, 5, 6, 7] ⟨QOne.yes rfl rfl rfl (PV.fieldAddr f_tf25_3 rfl), QOne.yes rfl rfl rfl (PV.load1 2 f_ts23 rfl rfl rfl), trivial⟩ rfl rfl rfl rfl rfl rfl rfl (EV.ofGV (GV.append (j := 1) f_tl23 f_ni23 f_te25 rfl rfl rfl (src_box (i := 0) rfl rfl rfl) (by omega) (by omega))) (fun y => ?_)
    refine AR.done [1, 0] rfl ?_
    apply AR.more [(6, _)]
    refine AR.eff [6] 7 [0, 1, 2, 3, 4, 5, 6, 7] ⟨QOne.yes rfl rfl rfl (PV.fieldAddr f_tf25_3 rfl), trivial⟩ rfl rfl rfl rfl rfl rfl rfl (EV.store1 2 f_ts23 rfl rfl rfl rfl rfl) (fun _ => ?_)
    refine AR.done [6] rfl ?_
    refine AR.last [] [0, 1, 2, 3, 4, 5, 6, 7] trivial rfl rfl rfl ?_
    refine NX.sub (E' := [(2, _), (3, _), (4, _), (5, _), (14, _), (15, _), (18, _), (19, _), (20, _), (21, _), (22, _), (23, _), (24, _)]) ⟨rfl, rfl, rfl, rfl, rfl, rfl, rfl, rfl, rfl, rfl, rfl, rfl, rfl, trivial⟩ ?_
    refine NX.off ?_
    refine NX.seq ?_
    refine TR.region ?_
    refine RL.move rfl rfl rfl ?_
    refine RL.bin rfl rfl rfl (BinV.sub _ rfl (by omega) (by omega)) rfl ?_
    refine RL.assign rfl rfl rfl ?_
    refine RL.nil ?_
    refine NX.roundP ⟨x.r - 1, z.2, y.1, y.2, x.xs ++ z.1.1.c, x.ts ++ [z.1.1.t]⟩ ⟨?_, fun t ht => ?_⟩ (by show x.r - 1 < x.r; omega) ⟨rfl, rfl, rfl, congrArg (fun z => some (I z)) (show (x.r : Int) - 1 = ((x.r - 1 : Nat) : Int) by omega), trivial⟩ (fun w hw => ?_)
    · show (x.ts ++ [_]).length + (x.r - 1) ≤ 4; rw [List.length_append]; simp; omega
    · rcases List.mem_append.1 ht with h9 | h9
      · exact hx.2 t h9
      · rw [List.mem_singleton.1 h9]; exact z.1.2
    · have h9 := ((hw.drop 0 rfl).trees1 (ts := x.ts) (cs := x.xs) (t := z.1.1.t) (a := z.1.1.a) (len := z.1.1.len) (cap := z.1.1.cap) (.tail _ (.head _)) (.head _)).facts (F' := TreesF (x.ts ++ [z.1.1.t]) (x.xs ++ z.1.1.c) :: F) (fun φ h => by
        rcases List.mem_cons.1 h with e | h
        · subst e; exact .head _
        · exact .tail _ (.tail _ (.tail _ h)))
      show St w (OwnSl 25 4 y.1 (x.ts ++ [_]).length y.2 (x.xs ++ z.1.1.c) :: Box _ 25 [_, _, _, .slice y.1 (x.ts ++ [_]).length y.2] :: _) _
      rw [List.length_append]
      exact h9
  · skip
    refine TR.exit ?_
    refine NX.exitThen ?_
    refine NX.exitThen ?_
    refine NX.exitHere ?_
    refine NX.seq ?_
    refine TR.seq ?_
    refine TR.region ?_
    refine RL.loadA 1 rfl rfl rfl f_ta25 rfl ?_
    refine RL.storeA 3 rfl rfl rfl rfl f_tz25 rfl rfl ?_
    refine RL.nil ?_
    refine NX.seq ?_
    refine TR.ret ?_
    refine NX.retCx (j := 3) rfl rfl rfl f_ta25 (fun w hw => ?_)
    have h9 := hw.treeSl (.node v2.1.1 16 [] x.ts) (.head _)
    have hxl := hx.1
    exact ⟨⟨⟨.node v2.1.1 16 [] x.ts, x.oa, x.ts.length, x.oc⟩, small_inner (by omega) (by omega) hx.2⟩, rfl, (((h9.2.drop 0 rfl).drop 0 rfl).drop 0 rfl).facts (fun φ h => by
      rcases List.mem_cons.1 h with e | h
      · subst e; exact .head _
      · exact .tail _ (.tail _ h))⟩

theorem short_spec {tx : List UInt8} {m : Nat} {M : List HP} {F : List Fact} : Ctr Try.prog 42 [S tx, I m] M F {l : List UInt8 // l.length ≤ m} (fun l => S l.1) (fun _ => M) (fun _ => F) := by
  refine Ctr.body Try.func42 rfl rfl ?_
  refine TR.seq ?_
  refine TR.region ?_
  refine RL.assign rfl rfl rfl ?_
  refine RL.nil ?_
  refine NX.seq ?_
  refine TR.seq ?_
  refine TR.seq ?_
  refine TR.region ?_
  refine RL.move rfl rfl rfl ?_
  refine RL.lenStr rfl f_tstr9 rfl rfl ?_
  refine RL.move rfl rfl rfl ?_
  refine RL.bin rfl rfl rfl BinV.gtr rfl ?_
  refine RL.nil ?_
  refine NX.seq ?_
  refine TR.cond rfl (fun h1 => ?_) (fun h1 => ?_)
  · skip
    have hgt := of_decide_eq_true h1
    refine TR.seq ?_
    refine TR.region ?_
    refine RL.move rfl rfl rfl ?_
    refine RL.move rfl rfl rfl ?_
    refine RL.sliceSto rfl f_tstr9 rfl rfl  (by omega) (by omega) rfl ?_
    refine RL.assign rfl rfl rfl ?_
    refine RL.nil ?_
    refine NX.seq ?_
    refine TR.ret ?_
    refine NX.retThen ?_
    exact NX.ret1 ⟨_, by rw [List.length_take]; omega⟩ rfl rfl rfl (fun w hw => hw)
  · skip
    have hle : tx.length ≤ m := by have := of_decide_eq_false h1; omega
    refine TR.skip ?_
    refine NX.seq ?_
    refine TR.seq ?_
    refine TR.region ?_
    refine RL.move rfl rfl rfl ?_
    refine RL.assign rfl rfl rfl ?_
    refine RL.nil ?_
    refine NX.seq ?_
    refine TR.ret ?_
    exact NX.ret1 ⟨_, hle⟩ rfl rfl rfl (fun w hw => hw)

structure DX where
  i : Nat
  oa : Option Addr
  oc : Nat
  xs : List Value
  ts : List Tree

theorem small_inner2 {t : Tree} {ts : List Tree} {d : Nat} (hk : t.isLeaf = false) (hl : ts.length ≤ 4) (h : ∀ t, t ∈ ts → Small d t) : Small (d + 1) (.node t.id t.kind [] ts) := by
  refine ⟨Nat.zero_le _, hl, fun h9 => ?_, h⟩
  have h8 : t.isLeaf = true := h9
  rw [hk] at h8
  cases h8

theorem tidy_spec {d : Nat} : ∀ {t : Tree} {a : Option Addr} {len cap : Nat} {M : List HP} {F : List Fact} {dd : Int} (ht : TreeF t (nodeV t a len cap) ∈ F) (hd0 : 1 ≤ d) (hd6 : d ≤ 8) (hdd : dd = d), Ctr Try.prog 13 [nodeV t a len cap, I dd] M F {x : TX // Small d x.t} (fun x => x.1.v) (fun _ => M) (fun x => TreeF x.1.t x.1.v :: F) := by
  induction d with
  | zero => intro t a len cap M F dd ht hd0 hd6 hdd; omega
  | succ d tidy_spec =>
  intro t a len cap M F dd ht hd0 hd6 hdd
  refine Ctr.body Try.func13 rfl rfl ?_
  refine TR.seq ?_
  refine TR.region ?_
  refine RL.boxA rfl rfl rfl (fun b1 => ?_)
  refine RL.allocA rfl (Try.zeroValue25) rfl (fun b2 => ?_)
  refine RL.nil ?_
  refine NX.seq ?_
  refine TR.seq ?_
  refine TR.region ?_
  refine RL.fieldAddr rfl f_tf25_0 rfl rfl ?_
  refine RL.load1 1 rfl f_ts3 rfl rfl rfl rfl ?_
  refine RL.fieldAddr rfl f_tf25_1 rfl rfl ?_
  refine RL.load1 1 rfl f_ts3 rfl rfl rfl rfl ?_
  refine RL.build rfl rfl (f_bv25_0_1 _ _) rfl ?_
  refine RL.allocA rfl (Try.zeroValue25) rfl (fun b3 => ?_)
  refine RL.storeA 0 rfl rfl rfl rfl f_tz25 rfl rfl ?_
  refine RL.nil ?_
  refine NX.seq ?_
  refine TR.seq ?_
  refine TR.seq ?_
  refine TR.region ?_
  refine RL.loadA 2 rfl rfl rfl f_ta25 rfl ?_
  refine RL.call rfl rfl Try.call41 rfl (leaf41_spec t a len cap _ _) (fun _ => ?_)
  refine RL.nil ?_
  refine NX.seq ?_
  refine TR.cond rfl (fun h4 => ?_) (fun h4 => ?_)
  · skip
    have hl : t.isLeaf = true := h4
    refine TR.seq ?_
    refine TR.region ?_
    refine RL.fieldAddr rfl f_tf25_2 rfl rfl ?_
    refine RL.load1 2 rfl f_ts9 rfl rfl rfl rfl ?_
    refine RL.call rfl rfl Try.call42 rfl (short_spec (m := 8)) (fun sh => ?_)
    refine RL.fieldAddr rfl f_tf25_2 rfl rfl ?_
    refine RL.store1 0 rfl f_ts9 rfl rfl rfl rfl rfl ?_
    refine RL.nil ?_
    refine NX.seq ?_
    refine TR.seq ?_
    refine TR.region ?_
    refine RL.loadA 0 rfl rfl rfl f_ta25 rfl ?_
    refine RL.storeA 1 rfl rfl rfl rfl f_tz25 rfl rfl ?_
    refine RL.nil ?_
    refine NX.seq ?_
    refine TR.ret ?_
    refine NX.retThen ?_
    refine NX.retCx (j := 1) rfl rfl rfl f_ta25 (fun w hw => ⟨⟨⟨.node t.id t.kind sh.1 [], none, 0, 0⟩, small_leaf (by omega) sh.2⟩, rfl, ?_⟩)
    exact (((hw.drop 0 rfl).drop 0 rfl).drop 0 rfl).leafT _ _ _
  · skip
    have hl : t.isLeaf = false := h4
    refine TR.open1 (open_node ht) (fun hlen => ?_)
    refine TR.skip ?_
    refine NX.seq ?_
    refine TR.seq ?_
    refine TR.seq ?_
    refine TR.region ?_
    refine RL.assign rfl rfl rfl ?_
    refine RL.nil ?_
    refine NX.seq ?_
    refine TR.block ?_
    refine TR.loopP (ι := DX) (fun x => x.ts.length = x.i ∧ x.i ≤ 3 ∧ x.i ≤ t.kids.length ∧ ∀ u, u ∈ x.ts → Small d u) (fun x => [(1, I dd), (2, .pointer (some ⟨b1, 0, none⟩)), (4, .pointer (some ⟨b2, 0, none⟩)), (5, .pointer (some ⟨b3, 0, none⟩)), (6, I x.i)]) (fun x => OwnSl 25 4 x.oa x.ts.length x.oc x.xs :: Box b3 25 [I t.id, I t.kind, S [], .slice x.oa x.ts.length x.oc] :: Box b2 25 [I 0, I 0, S [], .slice none 0 0] :: Box b1 25 (nodeC t a len cap) :: M) (fun x => TreesF x.ts x.xs :: KidsOF a t.kids :: F) (fun x => 3 - x.i) ⟨0, none, 0, [], []⟩ ⟨rfl, Nat.zero_le _, Nat.zero_le _, fun u hu => by cases hu⟩ ⟨rfl, rfl, rfl, rfl, rfl, trivial⟩ (fun w hw => OwnSl.nil_new 25 4 hw.trees0) (fun x hx => ?_)
    refine TR.seq ?_
    refine TR.seq ?_
    refine TR.region ?_
    refine RL.move rfl rfl rfl ?_
    refine RL.fieldAddr rfl f_tf25_3 rfl rfl ?_
    refine RL.load1 3 rfl f_ts23 rfl rfl rfl rfl ?_
    refine RL.lenSlice rfl f_tl23 rfl rfl ?_
    refine RL.bin rfl rfl rfl BinV.lss rfl ?_
    refine RL.move rfl rfl rfl ?_
    refine RL.part (fun h5 => ?_) (fun h5 => ?_)
    · skip
      have hi1 := of_decide_eq_true h5
      refine RL.move rfl rfl rfl ?_
      refine RL.bin rfl rfl rfl BinV.lss rfl ?_
      refine RL.pickT rfl rfl rfl rfl ?_
      refine RL.move rfl rfl rfl ?_
      refine RL.part (fun h6 => ?_) (fun h6 => ?_)
      · skip
        have hi3 := of_decide_eq_true h6
        refine RL.move rfl rfl rfl ?_
        refine RL.bin rfl rfl rfl BinV.gtr rfl ?_
        refine RL.pickT rfl rfl rfl rfl ?_
        refine RL.nil ?_
        refine NX.seq ?_
        refine TR.cond rfl (fun h7 => ?_) (fun h7 => ?_)
        · skip
          have hdd1 := of_decide_eq_true h7
          have hk1 : x.i < t.kids.length := by omega
          refine TR.openP (open_kid (.tail _ (.head _)) (List.getElem?_eq_getElem hk1)) (fun w0 hw0 => ?_)
          refine TR.skip ?_
          refine NX.seq ?_
          refine TR.seq ?_
          refine TR.block ?_
          refine TR.sub (E' := [(1, _), (2, _), (4, _), (5, _), (6, _), (19, _), (20, _), (21, _), (22, _), (23, _), (24, _), (25, _), (26, _), (27, _), (28, _), (29, _), (30, _), (31, _)]) ⟨rfl, rfl, rfl, rfl, rfl, rfl, rfl, rfl, rfl, rfl, rfl, rfl, rfl, rfl, rfl, rfl, rfl, rfl, trivial⟩ ?_
          refine TR.draw mixed ?_
          apply AR.more [(0, _), (1, _), (2, _), (3, _), (4, _), (5, _), (6, _), (7, _), (8, _)]
          refine AR.eff [0, 1, 2, 3, 4, 5, 6, 7, 8] 9 [0, 1, 2, 3, 4, 5, 6, 7, 8, 9, 10, 11, 12, 13] ⟨QOne.yes rfl rfl rfl (PV.fieldAddr f_tf25_3 rfl), QOne.yes rfl rfl rfl (PV.load1 1 f_ts23 rfl rfl rfl), QOne.yes rfl rfl rfl (PV.fieldAddr f_tf25_3 rfl), QOne.yes rfl rfl rfl (PV.load1 3 f_ts23 rfl rfl rfl), QOne.yes rfl rfl rfl (PV.move rfl), QOne.yes rfl rfl rfl (PV.indexAddr f_tl23 f_tz25 (congrArg (fun a => some (Value.slice a _ _)) hw0) rfl (by omega) (by omega)), QOne.yes rfl rfl rfl (PV.loadF rfl (fun w K hF => run_loadCellsAt (hF _ (.head _)) f_ta25)), QOne.yes rfl rfl rfl (PV.move rfl), QOne.yes rfl rfl rfl (PV.bin rfl rfl (BinV.sub _ rfl (by omega) (by omega))), trivial⟩ rfl rfl rfl rfl rfl rfl rfl (EV.call rfl Try.call13 (tidy_spec (.tail _ (.head _)) (by omega) (by omega) (by omega))) (fun z => ?_)
          refine AR.done [6, 8, 7, 5, 3, 4, 2] rfl ?_
          refine AR.eff [0, 1] 10 [0, 1, 2, 3, 4, 5, 6, 7, 8, 9, 10, 11, 12, 13] ⟨QOne.yes rfl rfl rfl (PV.fieldAddr f_tf25_3 rfl), QOne.yes rfl rfl rfl (PV.load1 1 f_ts23 rfl rfl rfl), trivial⟩ rfl rfl rfl rfl rfl rfl rfl (EV.buildSlice rfl (f_bs23_1_0 _ _ _ _ _ _)) (fun b8 => ?_)
          refine AR.eff [0, 1] 11 [0, 1, 2, 3, 4, 5, 6, 7, 8, 9, 10, 11, 12, 13] ⟨QOne.yes rfl rfl rfl (PV.fieldAddr f_tf25_3 rfl), QOne.yes rfl rfl rfl (PV.load1 2 f_ts23 rfl rfl rfl), trivial⟩ rfl rfl rfl rfl rfl rfl rfl (EV.ofGV (GV.append (j := 1) f_tl23 f_ni23 f_te25 rfl rfl rfl (src_box (i := 0) rfl rfl rfl) (by omega) (by omega))) (fun y => ?_)
          refine AR.done [1, 0] rfl ?_
          apply AR.more [(12, _)]
          refine AR.eff [12] 13 [0, 1, 2, 3, 4, 5, 6, 7, 8, 9, 10, 11, 12, 13] ⟨QOne.yes rfl rfl rfl (PV.fieldAddr f_tf25_3 rfl), trivial⟩ rfl rfl rfl rfl rfl rfl rfl (EV.store1 2 f_ts23 rfl rfl rfl rfl rfl) (fun _ => ?_)
          refine AR.done [12] rfl ?_
          refine AR.last [] [0, 1, 2, 3, 4, 5, 6, 7, 8, 9, 10, 11, 12, 13] trivial rfl rfl rfl ?_
          refine NX.sub (E' := [(1, _), (2, _), (4, _), (5, _), (6, _), (19, _), (20, _), (21, _), (22, _), (23, _), (24, _), (25, _), (26, _), (27, _), (28, _), (29, _), (30, _), (31, _), (34, _), (35, _), (36, _), (37, _), (38, _), (39, _), (40, _), (41, _), (42, _), (43, _), (44, _), (45, _), (46, _)]) ⟨rfl, rfl, rfl, rfl, rfl, rfl, rfl, rfl, rfl, rfl, rfl, rfl, rfl, rfl, rfl, rfl, rfl, rfl, rfl, rfl, rfl, rfl, rfl, rfl, rfl, rfl, rfl, rfl, rfl, rfl, rfl, trivial⟩ ?_
          refine NX.off ?_
          refine NX.seq ?_
          refine TR.region ?_
          refine RL.move rfl rfl rfl ?_
          refine RL.bin rfl rfl rfl (BinV.add _ rfl (by omega) (by omega)) rfl ?_
          refine RL.assign rfl rfl rfl ?_
          refine RL.nil ?_
          refine NX.roundP ⟨x.i + 1, y.1, y.2, x.xs ++ z.1.c, x.ts ++ [z.1.t]⟩ ⟨?_, ?_, ?_, fun u hu => ?_⟩ (by show 3 - (x.i + 1) < 3 - x.i; omega) ⟨rfl, rfl, rfl, rfl, rfl, trivial⟩ (fun w hw => ?_)
          · show (x.ts ++ [_]).length = x.i + 1; rw [List.length_append, hx.1]; rfl
          · show x.i + 1 ≤ 3; omega
          · show x.i + 1 ≤ t.kids.length; omega
          · rcases List.mem_append.1 hu with h9 | h9
            · exact hx.2.2.2 u h9
            · rw [List.mem_singleton.1 h9]; exact z.2
          · have h9 := ((hw.drop 0 rfl).trees1 (ts := x.ts) (cs := x.xs) (t := z.1.t) (a := z.1.a) (len := z.1.len) (cap := z.1.cap) (.tail _ (.tail _ (.tail _ (.head _)))) (.head _)).facts (F' := TreesF (x.ts ++ [z.1.t]) (x.xs ++ z.1.c) :: KidsOF a t.kids :: F) (fun φ h => by
              rcases List.mem_cons.1 h with e | h
              · subst e; exact .head _
              · exact .tail _ (.tail _ (.tail _ (.tail _ (.tail _ h)))))
            show St w (OwnSl 25 4 y.1 (x.ts ++ [_]).length y.2 (x.xs ++ z.1.c) :: Box _ 25 [_, _, _, .slice y.1 (x.ts ++ [_]).length y.2] :: _) _
            rw [List.length_append]
            exact h9
        · skip
          refine TR.exit ?_
          refine NX.exitThen ?_
          refine NX.exitThen ?_
          refine NX.exitHere ?_
          refine NX.seq ?_
          refine TR.seq ?_
          refine TR.region ?_
          refine RL.loadA 1 rfl rfl rfl f_ta25 rfl ?_
          refine RL.storeA 2 rfl rfl rfl rfl f_tz25 rfl rfl ?_
          refine RL.nil ?_
          refine NX.seq ?_
          refine TR.ret ?_
          refine NX.retCx (j := 2) rfl rfl rfl f_ta25 (fun w hw => ?_)
          have h9 := hw.treeSl (.node t.id t.kind [] x.ts) (.head _)
          have hxl := hx.1
          have hx3 := hx.2.1
          exact ⟨⟨⟨.node t.id t.kind [] x.ts, x.oa, x.ts.length, x.oc⟩, small_inner2 hl (by omega) hx.2.2.2⟩, rfl, (((h9.2.drop 0 rfl).drop 0 rfl).drop 0 rfl).facts (fun φ h => by
            rcases List.mem_cons.1 h with e | h
            · subst e; exact .head _
            · exact .tail _ (.tail _ (.tail _ h)))⟩
      · skip
        refine RL.skip rfl rfl rfl ?_
        refine RL.skip rfl rfl rfl ?_
        refine RL.pickF rfl rfl rfl rfl ?_
        refine RL.nil ?_
        refine NX.seq ?_
        refine TR.condF rfl ?_
        refine TR.exit ?_
        refine NX.exitThen ?_
        refine NX.exitThen ?_
        refine NX.exitHere ?_
        refine NX.seq ?_
        refine TR.seq ?_
        refine TR.region ?_
        refine RL.loadA 1 rfl rfl rfl f_ta25 rfl ?_
        refine RL.storeA 2 rfl rfl rfl rfl f_tz25 rfl rfl ?_
        refine RL.nil ?_
        refine NX.seq ?_
        refine TR.ret ?_
        refine NX.retCx (j := 2) rfl rfl rfl f_ta25 (fun w hw => ?_)
        have h9 := hw.treeSl (.node t.id t.kind [] x.ts) (.head _)
        have hxl := hx.1
        have hx3 := hx.2.1
        exact ⟨⟨⟨.node t.id t.kind [] x.ts, x.oa, x.ts.length, x.oc⟩, small_inner2 hl (by omega) hx.2.2.2⟩, rfl, (((h9.2.drop 0 rfl).drop 0 rfl).drop 0 rfl).facts (fun φ h => by
          rcases List.mem_cons.1 h with e | h
          · subst e; exact .head _
          · exact .tail _ (.tail _ (.tail _ h)))⟩
    · skip
      refine RL.skip rfl rfl rfl ?_
      refine RL.skip rfl rfl rfl ?_
      refine RL.pickF rfl rfl rfl rfl ?_
      refine RL.move rfl rfl rfl ?_
      refine RL.skip rfl rfl rfl ?_
      refine RL.skip rfl rfl rfl ?_
      refine RL.pickF rfl rfl rfl rfl ?_
      refine RL.nil ?_
      refine NX.seq ?_
      refine TR.condF rfl ?_
      refine TR.exit ?_
      refine NX.exitThen ?_
      refine NX.exitThen ?_
      refine NX.exitHere ?_
      refine NX.seq ?_
      refine TR.seq ?_
      refine TR.region ?_
      refine RL.loadA 1 rfl rfl rfl f_ta25 rfl ?_
      refine RL.storeA 2 rfl rfl rfl rfl f_tz25 rfl rfl ?_
      refine RL.nil ?_
      refine NX.seq ?_
      refine TR.ret ?_
      refine NX.retCx (j := 2) rfl rfl rfl f_ta25 (fun w hw => ?_)
      have h9 := hw.treeSl (.node t.id t.kind [] x.ts) (.head _)
      have hxl := hx.1
      have hx3 := hx.2.1
      exact ⟨⟨⟨.node t.id t.kind [] x.ts, x.oa, x.ts.length, x.oc⟩, small_inner2 hl (by omega) hx.2.2.2⟩, rfl, (((h9.2.drop 0 rfl).drop 0 rfl).drop 0 rfl).facts (fun φ h => by
        rcases List.mem_cons.1 h with e | h
        · subst e; exact .head _
        · exact .tail _ (.tail _ (.tail _ h)))⟩

end Go.Proofs.Ytnolpmigiboanaa
