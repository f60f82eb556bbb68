/- Walks of the functions of package syntax and of its reference model. Printed by s07.py. -/
import Derived.Test.YtnolpmigiboanaaBld
import Derived.Test.YtnolpmigiboanaaT7
namespace Go.Proofs.Ytnolpmigiboanaa
open Go.GL Go.GL.Tree
theorem h_bs23_1_0 (x00 : Int) (x01 : Int) (x02 : List UInt8) (x03 : Option Addr) (x03n x03c : Nat) : BuildSV Try.prog 23 25 1 [(0, .agg #[.int .i64 x00, .int .i64 x01, S x02, .slice x03 x03n x03c])] [.int .i64 x00, .int .i64 x01, S x02, .slice x03 x03n x03c] := fun w => by kernel_rfl
theorem h_bs23_2_0_1 (x00 : Int) (x01 : Int) (x02 : List UInt8) (x03 : Option Addr) (x03n x03c : Nat) (x10 : Int) (x11 : Int) (x12 : List UInt8) (x13 : Option Addr) (x13n x13c : Nat) : BuildSV Try.prog 23 25 2 [(0, .agg #[.int .i64 x00, .int .i64 x01, S x02, .slice x03 x03n x03c]), (1, .agg #[.int .i64 x10, .int .i64 x11, S x12, .slice x13 x13n x13c])] [.int .i64 x00, .int .i64 x01, S x02, .slice x03 x03n x03c, .int .i64 x10, .int .i64 x11, S x12, .slice x13 x13n x13c] := fun w => by kernel_rfl
theorem h_bs23_3_0_1_2 (x00 : Int) (x01 : Int) (x02 : List UInt8) (x03 : Option Addr) (x03n x03c : Nat) (x10 : Int) (x11 : Int) (x12 : List UInt8) (x13 : Option Addr) (x13n x13c : Nat) (x20 : Int) (x21 : Int) (x22 : List UInt8) (x23 : Option Addr) (x23n x23c : Nat) : BuildSV Try.prog 23 25 3 [(0, .agg #[.int .i64 x00, .int .i64 x01, S x02, .slice x03 x03n x03c]), (1, .agg #[.int .i64 x10, .int .i64 x11, S x12, .slice x13 x13n x13c]), (2, .agg #[.int .i64 x20, .int .i64 x21, S x22, .slice x23 x23n x23c])] [.int .i64 x00, .int .i64 x01, S x02, .slice x03 x03n x03c, .int .i64 x10, .int .i64 x11, S x12, .slice x13 x13n x13c, .int .i64 x20, .int .i64 x21, S x22, .slice x23 x23n x23c] := fun w => by kernel_rfl
theorem h_bv25_  : BuildV Try.prog 25 [] (.agg #[.int .i64 0, .int .i64 0, S [], .slice none 0 0]) := fun w => by kernel_rfl
theorem h_bv25_1_2 (x1 : Int) (x2 : List UInt8) : BuildV Try.prog 25 [(1, .int .i64 x1), (2, S x2)] (.agg #[.int .i64 0, .int .i64 x1, S x2, .slice none 0 0]) := fun w => by kernel_rfl
theorem h_bv25_1_3 (x1 : Int) (x3 : Option Addr) (x3n x3c : Nat) : BuildV Try.prog 25 [(1, .int .i64 x1), (3, .slice x3 x3n x3c)] (.agg #[.int .i64 0, .int .i64 x1, S [], .slice x3 x3n x3c]) := fun w => by kernel_rfl
theorem h_ta25 : tyAgg Try.prog 25 4 = true := by kernel_rfl
theorem h_tf25_3 : fieldOff Try.prog 25 3 3 = true := by kernel_rfl
theorem h_tl22 : tySlice Try.prog 22 3 = true := by kernel_rfl
theorem h_tl23 : tySlice Try.prog 23 25 = true := by kernel_rfl
theorem h_ts23 : tyScalar Try.prog 23 = true := by kernel_rfl
theorem h_ts3 : tyScalar Try.prog 3 = true := by kernel_rfl
theorem h_tz25 : tySize Try.prog 25 4 = true := by kernel_rfl
theorem h_tz3 : tySize Try.prog 3 1 = true := by kernel_rfl
def exA : Tree := .node 0 50 [] [.node 0 2 [97] []]
def exB : Tree := .node 0 49 [] [.node 0 0 [32] [], .node 0 4 [49] []]
def exT : Tree := .node 0 37 [] [exA, .node 0 6 [43] [], exB]
theorem exT_small : Small 3 exT := by
  simp [exT, exA, exB, Small, Tree.kids, Tree.txt, Tree.isLeaf, Tree.kind]

theorem example_spec {M : List HP} {F : List Fact} : Ctr Try.prog 43 [] M F {x : TX // x.t = exT} (fun x => x.1.v) (fun _ => M) (fun x => TreeF x.1.t x.1.v :: F) := by
  refine Ctr.body Try.func43 rfl rfl ?_
  refine TR.seq ?_
  refine TR.region ?_
  refine RL.allocA rfl (Try.zeroValue25) rfl (fun b1 => ?_)
  refine RL.nil ?_
  refine NX.seq ?_
  refine TR.seq ?_
  refine TR.region ?_
  refine RL.build rfl rfl (h_bv25_1_2 _ _) rfl ?_
  refine RL.buildSlice rfl rfl (h_bs23_1_0 _ _ _ _ _ _) rfl (fun ba => ?_)
  refine RL.weak (fun w hw => St.boxTree exA (by decide) (hw.addFact (TreesF [.node 0 2 [97] []] (nodeC (.node 0 2 [97] []) none 0 0)) (fun K _ => ⟨_, _, _, [], rfl, leaf_at _ _ _, rfl⟩)) (.head _)) ?_
  refine RL.build rfl rfl (h_bv25_1_3 _ _ _ _) rfl ?_
  refine RL.allocA rfl (Try.zeroValue25) rfl (fun b2 => ?_)
  refine RL.storeA 0 rfl rfl rfl rfl h_tz25 rfl rfl ?_
  refine RL.nil ?_
  refine NX.seq ?_
  refine TR.seq ?_
  refine TR.region ?_
  refine RL.build rfl rfl (h_bv25_1_2 _ _) rfl ?_
  refine RL.build rfl rfl (h_bv25_1_2 _ _) rfl ?_
  refine RL.buildSlice rfl rfl (h_bs23_2_0_1 _ _ _ _ _ _ _ _ _ _ _ _) rfl (fun bb => ?_)
  refine RL.weak (fun w hw => St.boxTree exB (by decide) (hw.addFact (TreesF [.node 0 0 [32] [], .node 0 4 [49] []] (nodeC (.node 0 0 [32] []) none 0 0 ++ nodeC (.node 0 4 [49] []) none 0 0)) (fun K _ => ⟨_, _, _, _, rfl, leaf_at _ _ _, _, _, _, [], rfl, leaf_at _ _ _, rfl⟩)) (.head _)) ?_
  refine RL.build rfl rfl (h_bv25_1_3 _ _ _ _) rfl ?_
  refine RL.allocA rfl (Try.zeroValue25) rfl (fun b3 => ?_)
  refine RL.storeA 0 rfl rfl rfl rfl h_tz25 rfl rfl ?_
  refine RL.nil ?_
  refine NX.seq ?_
  refine TR.seq ?_
  refine TR.region ?_
  refine RL.loadA 1 rfl rfl rfl h_ta25 rfl ?_
  refine RL.build rfl rfl (h_bv25_1_2 _ _) rfl ?_
  refine RL.loadA 0 rfl rfl rfl h_ta25 rfl ?_
  refine RL.buildSlice rfl rfl (h_bs23_3_0_1_2 _ _ _ _ _ _ _ _ _ _ _ _ _ _ _ _ _ _) rfl (fun bt => ?_)
  refine RL.weak (fun w hw => St.boxTree exT (by decide) (hw.addFact (TreesF [exA, .node 0 6 [43] [], exB] (nodeC exA (some ⟨ba, 0, none⟩) 1 1 ++ (nodeC (.node 0 6 [43] []) none 0 0 ++ nodeC exB (some ⟨bb, 0, none⟩) 2 2))) (fun K hf => ⟨_, _, _, _, rfl, hf _ (.tail _ (.tail _ (.head _))), _, _, _, _, rfl, leaf_at _ _ _, _, _, _, [], rfl, hf _ (.head _), rfl⟩)) (.head _)) ?_
  refine RL.build rfl rfl (h_bv25_1_3 _ _ _ _) rfl ?_
  refine RL.storeA 2 rfl rfl rfl rfl h_tz25 rfl rfl ?_
  refine RL.nil ?_
  refine NX.seq ?_
  refine TR.ret ?_
  exact NX.retCx (j := 2) rfl rfl rfl h_ta25 (fun w hw => ⟨⟨⟨exT, some ⟨bt, 0, none⟩, 3, 3⟩, rfl⟩, rfl, (((hw.drop 0 rfl).drop 0 rfl).drop 0 rfl).facts (fun φ h => by
    rcases List.mem_cons.1 h with e | h
    · subst e; exact .head _
    · exact .tail _ (.tail _ (.tail _ (.tail _ (.tail _ (.tail _ h))))))⟩)

structure RX where
  u : Tree
  a : Option Addr
  len : Nat
  cap : Nat
  p : Nat
  j : Nat
  e : Nat
theorem kids_cap {d : Nat} {t : Tree} (hs : Small d t) (hd : d ≤ 8) {k : Nat} (h : k < t.kids.length) : ((t.kids.take k).flatMap text).length + t.kids[k].width ≤ t.width ∧ t.width ≤ 524288 := by
  have := kid_bounds' hs hd (hs.inner h) h
  omega

theorem get_spec {t : Tree} {a : Option Addr} {len cap : Nat} {M : List HP} {F : List Fact} {d : Nat} (hs : Small d t) (hd : d ≤ 8) (ht : TreeF t (nodeV t a len cap) ∈ F) {ps : List Int} {oa : Option Addr} {ca : Nat} (ha : ArrF oa (ints ps) ∈ F) (hps : ps.length ≤ 4611686018427387904) : Ctr Try.prog 22 [nodeV t a len cap, .slice oa ps.length ca] M F {x : TX // x.t = (t.getR ps).1} (fun x => .tuple #[x.1.v, I (t.getR ps).2.1, .bool (t.getR ps).2.2]) (fun _ => M) (fun x => TreeF x.1.t x.1.v :: F) := by
  refine Ctr.body Try.func22 rfl rfl ?_
  refine TR.seq ?_
  refine TR.region ?_
  refine RL.boxA rfl rfl rfl (fun b1 => ?_)
  refine RL.allocA rfl (Try.zeroValue25) rfl (fun b2 => ?_)
  refine RL.assign rfl rfl rfl ?_
  refine RL.assign rfl rfl rfl ?_
  refine RL.nil ?_
  refine NX.seq ?_
  refine TR.seq ?_
  refine TR.region ?_
  refine RL.assign rfl rfl rfl ?_
  refine RL.nil ?_
  refine NX.seq ?_
  refine TR.seq ?_
  refine TR.seq ?_
  refine TR.region ?_
  refine RL.move rfl rfl rfl ?_
  refine RL.lenSlice rfl h_tl22 rfl rfl ?_
  refine RL.move rfl rfl rfl ?_
  refine RL.nil ?_
  refine NX.seq ?_
  refine TR.block ?_
  refine TR.loopP (ι := RX) (fun x => Small x.e x.u ∧ x.e ≤ d ∧ x.j ≤ ps.length ∧ x.u.get (ps.drop x.j) x.p = t.get ps 0 ∧ x.p + x.u.width ≤ 524288) (fun x => [(1, .slice oa ps.length ca), (2, .pointer (some ⟨b1, 0, none⟩)), (4, .pointer (some ⟨b2, 0, none⟩)), (5, I 0), (6, .bool false), (7, I x.p), (12, .slice oa ps.length ca), (13, I ps.length), (14, I x.j)]) (fun x => Box b2 25 [I 0, I 0, S [], .slice none 0 0] :: Box b1 25 (nodeC x.u x.a x.len x.cap) :: M) (fun x => TreeF x.u (nodeV x.u x.a x.len x.cap) :: F) (fun x => ps.length - x.j) ⟨t, a, len, cap, 0, 0, d⟩ ⟨hs, Nat.le_refl _, Nat.zero_le _, rfl, by have := hs.width6 hd; show 0 + t.width ≤ 524288; omega⟩ ⟨rfl, rfl, rfl, rfl, rfl, rfl, rfl, rfl, rfl, trivial⟩ (fun w hw => hw.addFact (TreeF t (nodeV t a len cap)) (fun K hf => hf _ ht)) (fun x hx => ?_)
  refine TR.seq ?_
  refine TR.region ?_
  refine RL.bin rfl rfl rfl BinV.lss rfl ?_
  refine RL.nil ?_
  refine NX.seq ?_
  refine TR.seq ?_
  refine TR.cond rfl (fun h3 => ?_) (fun h3 => ?_)
  · skip
    have hj1 : x.j < ps.length := by have := of_decide_eq_true h3; omega
    have hdk := List.drop_eq_getElem_cons hj1
    refine TR.open1 (open_node (.head _)) (fun hlen => ?_)
    refine TR.openP (open_arr (oa := oa) (xs := ints ps) (.tail _ (.tail _ ha)) (ints_ne (by omega))) (fun q hpa => ?_)
    refine TR.skip ?_
    refine NX.seq ?_
    refine TR.seq ?_
    refine TR.block ?_
    refine TR.seq ?_
    refine TR.region ?_
    refine RL.indexAddr rfl h_tl22 h_tz3 (congrArg (fun a => some (Value.slice a _ _)) hpa) rfl (by omega) (by omega) rfl ?_
    refine RL.loadF rfl rfl (fun w K hF => run_loadCell1 (j := (x.j : Int).toNat * 1) (v := I ps[x.j]) (hF _ (.head _)) h_ts3 (by simp [hj1])) rfl ?_
    refine RL.assign rfl rfl rfl ?_
    refine RL.nil ?_
    refine NX.seq ?_
    refine TR.seq ?_
    refine TR.seq ?_
    refine TR.region ?_
    refine RL.move rfl rfl rfl ?_
    refine RL.bin rfl rfl rfl BinV.lss rfl ?_
    refine RL.move rfl rfl rfl ?_
    refine RL.part (fun h4 => ?_) (fun h4 => ?_)
    · skip
      have hout : ps[x.j] < 0 ∨ (x.u.kids.length : Int) ≤ ps[x.j] := by have := of_decide_eq_true h4; omega
      refine RL.skip rfl rfl rfl ?_
      refine RL.skip rfl rfl rfl ?_
      refine RL.skip rfl rfl rfl ?_
      refine RL.skip rfl rfl rfl ?_
      refine RL.skip rfl rfl rfl ?_
      refine RL.pickT rfl rfl rfl rfl ?_
      refine RL.nil ?_
      refine NX.seq ?_
      refine TR.condT rfl ?_
      refine TR.seq ?_
      refine TR.region ?_
      refine RL.build rfl rfl (h_bv25_) rfl ?_
      refine RL.storeA 0 rfl rfl rfl rfl h_tz25 rfl rfl ?_
      refine RL.assign rfl rfl rfl ?_
      refine RL.assign rfl rfl rfl ?_
      refine RL.nil ?_
      refine NX.seq ?_
      refine TR.ret ?_
      refine NX.retThen ?_
      refine NX.retBlock ?_
      refine NX.retThen ?_
      refine NX.retThen ?_
      refine NX.retBlock ?_
      refine NX.retThen ?_
      have h9 : t.getR ps = (.node 0 0 [] [], 0, false) := by
        have h8 := hx.2.2.2.1
        rw [hdk, get_out hout] at h8
        unfold getR; rw [← h8]
      refine NX.retC2 (j := 0) rfl rfl rfl rfl rfl h_ta25 (fun w hw => ⟨⟨⟨.node 0 0 [] [], none, 0, 0⟩, by rw [h9]⟩, (by show _ = Value.tuple #[nodeV (.node 0 0 [] []) none 0 0, I (t.getR ps).2.1, .bool (t.getR ps).2.2]; rw [h9]; rfl), ?_⟩)
      exact (((hw.drop 0 rfl).drop 0 rfl).facts (fun φ h => by simp [h])).leafT 0 0 []
    · skip
      have hneg := of_decide_eq_false h4
      refine RL.move rfl rfl rfl ?_
      refine RL.fieldAddr rfl h_tf25_3 rfl rfl ?_
      refine RL.load1 1 rfl h_ts23 rfl rfl rfl rfl ?_
      refine RL.lenSlice rfl h_tl23 rfl rfl ?_
      refine RL.bin rfl rfl rfl BinV.geq rfl ?_
      refine RL.pickF rfl rfl rfl rfl ?_
      refine RL.nil ?_
      refine NX.seq ?_
      refine TR.cond rfl (fun h5 => ?_) (fun h5 => ?_)
      · skip
        have hout : ps[x.j] < 0 ∨ (x.u.kids.length : Int) ≤ ps[x.j] := by have := of_decide_eq_true h5; omega
        refine TR.seq ?_
        refine TR.region ?_
        refine RL.build rfl rfl (h_bv25_) rfl ?_
        refine RL.storeA 0 rfl rfl rfl rfl h_tz25 rfl rfl ?_
        refine RL.assign rfl rfl rfl ?_
        refine RL.assign rfl rfl rfl ?_
        refine RL.nil ?_
        refine NX.seq ?_
        refine TR.ret ?_
        refine NX.retThen ?_
        refine NX.retBlock ?_
        refine NX.retThen ?_
        refine NX.retThen ?_
        refine NX.retBlock ?_
        refine NX.retThen ?_
        have h9 : t.getR ps = (.node 0 0 [] [], 0, false) := by
          have h8 := hx.2.2.2.1
          rw [hdk, get_out hout] at h8
          unfold getR; rw [← h8]
        refine NX.retC2 (j := 0) rfl rfl rfl rfl rfl h_ta25 (fun w hw => ⟨⟨⟨.node 0 0 [] [], none, 0, 0⟩, by rw [h9]⟩, (by show _ = Value.tuple #[nodeV (.node 0 0 [] []) none 0 0, I (t.getR ps).2.1, .bool (t.getR ps).2.2]; rw [h9]; rfl), ?_⟩)
        exact (((hw.drop 0 rfl).drop 0 rfl).facts (fun φ h => by simp [h])).leafT 0 0 []
      · skip
        have hge := of_decide_eq_false h5
        obtain ⟨i, hi⟩ := Int.eq_ofNat_of_zero_le (show 0 ≤ ps[x.j] by omega)
        have hik : i < x.u.kids.length := by omega
        refine TR.skip ?_
        refine NX.seq ?_
        refine TR.seq ?_
        refine TR.seq ?_
        refine TR.region ?_
        refine RL.fieldAddr rfl h_tf25_3 rfl rfl ?_
        refine RL.load1 1 rfl h_ts23 rfl rfl rfl rfl ?_
        refine RL.move rfl rfl rfl ?_
        refine RL.sliceLH (h := i) rfl h_tl23 h_tz25 rfl (.inl ⟨rfl, rfl⟩) (.inr ⟨_, rfl, congrArg (fun z => some (I z)) hi⟩) (by omega) (by omega) rfl ?_
        refine RL.lenSlice rfl h_tl23 rfl rfl ?_
        refine RL.move rfl rfl rfl ?_
        refine RL.nil ?_
        refine NX.seq ?_
        refine TR.block ?_
        refine TR.loopP (ι := Nat) (fun m => m ≤ i) (fun m => [(1, .slice oa ps.length ca), (2, .pointer (some ⟨b1, 0, none⟩)), (4, .pointer (some ⟨b2, 0, none⟩)), (5, I 0), (6, .bool false), (7, I (x.p + ((x.u.kids.take m).flatMap text).length : Nat)), (9, I ps[x.j]), (12, .slice oa ps.length ca), (13, I ps.length), (14, I x.j), (31, .slice (cutA x.a 0 x.cap 4) (i - 0) (x.cap - 0)), (32, I (i - 0 : Nat)), (33, I m)]) (fun m => Box b2 25 [I 0, I 0, S [], .slice none 0 0] :: Box b1 25 (nodeC x.u x.a x.len x.cap) :: M) (fun m => CellsF q.1 q.2 (ints ps) :: KidsOF x.a x.u.kids :: TreeF x.u (nodeV x.u x.a x.len x.cap) :: F) (fun m => i - m) 0 (Nat.zero_le _) ⟨rfl, rfl, rfl, rfl, rfl, rfl, rfl, rfl, rfl, rfl, rfl, rfl, rfl, trivial⟩ (fun w hw => hw) (fun m hm => ?_)
        refine TR.seq ?_
        refine TR.region ?_
        refine RL.bin rfl rfl rfl BinV.lss rfl ?_
        refine RL.nil ?_
        refine NX.seq ?_
        refine TR.seq ?_
        refine TR.cond rfl (fun h6 => ?_) (fun h6 => ?_)
        · skip
          have hm0 : m < i := by have := of_decide_eq_true h6; omega
          have hm1 : m < x.u.kids.length := by omega
          refine TR.openP (open_kid (a := x.a) (ks := x.u.kids) (.tail _ (.head _)) (List.getElem?_eq_getElem hm1)) (fun w1 hw1 => ?_)
          have hcut := cutA_zero (cap := x.cap) (size := 4) hw1
          have hkc := kids_cap hx.1 (by omega) hm1
          refine TR.skip ?_
          refine NX.seq ?_
          refine TR.seq ?_
          refine TR.block ?_
          refine TR.seq ?_
          refine TR.region ?_
          refine RL.indexAddr rfl h_tl23 h_tz25 (congrArg (fun a => some (Value.slice a _ _)) hcut) rfl (by omega) (by omega) rfl ?_
          refine RL.loadF rfl rfl (fun w K hF => run_loadCellsAt (hF _ (.head _)) h_ta25) rfl ?_
          refine RL.allocA rfl (Try.zeroValue25) rfl (fun b7 => ?_)
          refine RL.storeA 0 rfl rfl rfl rfl h_tz25 rfl rfl ?_
          refine RL.nil ?_
          refine NX.seq ?_
          refine TR.region ?_
          refine RL.move rfl rfl rfl ?_
          refine RL.loadA 0 rfl rfl rfl h_ta25 rfl ?_
          refine RL.call rfl rfl Try.call23 rfl (width_spec (.tail _ (.head _)) (by have := kids_cap hx.1 (by omega) hm1; omega)) (fun _ => ?_)
          refine RL.bin rfl rfl rfl (BinV.add _ rfl (by omega) (by omega)) rfl ?_
          refine RL.assign rfl rfl rfl ?_
          refine RL.nil ?_
          refine NX.off ?_
          refine NX.seq ?_
          refine TR.region ?_
          refine RL.bin rfl rfl rfl (BinV.add _ rfl (by omega) (by omega)) rfl ?_
          refine RL.move rfl rfl rfl ?_
          refine RL.nil ?_
          have h8 : ((x.u.kids.take (m + 1)).flatMap text).length = ((x.u.kids.take m).flatMap text).length + x.u.kids[m].width := by rw [take_flat hm1, List.length_append]; rfl
          refine NX.roundP (m + 1) (by omega) (by omega) ⟨rfl, rfl, rfl, rfl, rfl, congrArg (fun z => some (I z)) (by rw [h8]; simp; omega), rfl, rfl, rfl, rfl, rfl, rfl, rfl, trivial⟩ (fun w hw => (hw.drop 0 rfl).facts (fun φ h => .tail _ (.tail _ h)))
        · skip
          have hmi : m = i := by have := of_decide_eq_false h6; omega
          refine TR.openP (open_kid (a := x.a) (ks := x.u.kids) (.tail _ (.head _)) (List.getElem?_eq_getElem hik)) (fun w2 hw2 => ?_)
          refine TR.exit ?_
          refine NX.exitThen ?_
          refine NX.exitThen ?_
          refine NX.exitHere ?_
          refine NX.seq ?_
          refine TR.region ?_
          refine RL.fieldAddr rfl h_tf25_3 rfl rfl ?_
          refine RL.load1 1 rfl h_ts23 rfl rfl rfl rfl ?_
          refine RL.move rfl rfl rfl ?_
          refine RL.indexAddr rfl h_tl23 h_tz25 (congrArg (fun a => some (Value.slice a _ _)) hw2) (congrArg (fun z => some (I z)) hi) (by omega) (by omega) rfl ?_
          refine RL.loadF rfl rfl (fun w K hF => run_loadCellsAt (hF _ (.head _)) h_ta25) rfl ?_
          refine RL.storeA 1 rfl rfl rfl rfl h_tz25 rfl rfl ?_
          refine RL.nil ?_
          refine NX.off ?_
          refine NX.seq ?_
          refine TR.region ?_
          refine RL.bin rfl rfl rfl (BinV.add _ rfl (by omega) (by omega)) rfl ?_
          refine RL.move rfl rfl rfl ?_
          refine RL.nil ?_
          obtain ⟨e0, he0⟩ : ∃ e0, x.e = e0 + 1 := by
            cases hee : x.e with
            | zero => rw [hee] at hx; exact hx.1.elim
            | succ e0 => exact ⟨e0, rfl⟩
          refine NX.roundP ⟨x.u.kids[i], w2.a, w2.len, w2.cap, x.p + ((x.u.kids.take i).flatMap text).length, x.j + 1, e0⟩ ⟨?_, ?_, ?_, ?_, ?_⟩ (by show _ - (x.j + 1) < _ - x.j; omega) ⟨rfl, rfl, rfl, rfl, rfl, congrArg (fun z => some (I z)) (by rw [hmi]), rfl, rfl, rfl, trivial⟩ (fun w hw => ?_)
          · have := hx.1; rw [he0] at this; exact this.kid (List.getElem_mem hik)
          · show e0 ≤ d; omega
          · exact hj1
          · have h9 := hx.2.2.2.1
            rw [hdk, hi, get_in hik] at h9
            exact h9
          · have := kids_cap hx.1 (by omega) hik
            have := hx.2.2.2.2
            show x.p + _ + x.u.kids[i].width ≤ 524288; omega
          · exact hw.facts (fun φ h => by
              rcases List.mem_cons.1 h with e | h
              · subst e; exact .tail _ (.head _)
              · simp [h])
  · skip
    have hj2 : x.j = ps.length := by have := of_decide_eq_false h3; omega
    refine TR.exit ?_
    refine NX.exitThen ?_
    refine NX.exitThen ?_
    refine NX.exitHere ?_
    refine NX.seq ?_
    refine TR.seq ?_
    refine TR.region ?_
    refine RL.loadA 1 rfl rfl rfl h_ta25 rfl ?_
    refine RL.call rfl rfl Try.call56 rfl (clone_spec hx.1 (by omega) (.head _)) (fun v => ?_)
    refine RL.move rfl rfl rfl ?_
    refine RL.storeA 1 rfl rfl rfl rfl h_tz25 rfl rfl ?_
    refine RL.assign rfl rfl rfl ?_
    refine RL.assign rfl rfl rfl ?_
    refine RL.nil ?_
    refine NX.seq ?_
    refine TR.ret ?_
    have h9 : t.getR ps = (x.u, (x.p : Int), true) := by
      have h8 := hx.2.2.2.1
      rw [hj2, List.drop_length, Tree.get] at h8
      unfold getR; rw [← h8]
    refine NX.retC2 (j := 1) rfl rfl rfl rfl rfl h_ta25 (fun w hw => ⟨⟨v.1, by rw [h9]; exact v.2⟩, (by show _ = Value.tuple #[v.1.v, I (t.getR ps).2.1, .bool (t.getR ps).2.2]; rw [h9]), ?_⟩)
    exact ((hw.otKeep.drop 0 rfl).drop 0 rfl).facts (fun φ h => by
      rcases List.mem_cons.1 h with e | h
      · subst e; exact .head _
      · exact .tail _ (.tail _ h))

end Go.Proofs.Ytnolpmigiboanaa
